/-
  Own texts, several in one (Count, Totals, In2).
-/
import Derived.Test.YtahagfdjpldblaaGreatDoorMrg13
import Derived.Test.YtahagfdjpldblaaGreatDoorMrg12
import Derived.Test.YtahagfdjpldblaaGreatDoorMrg15
namespace Go.Proofs.YtahagfdjpldblaaGreatDoor
open Go.RowKit Ky
set_option linter.unusedVariables false
set_option linter.unusedSimpArgs false

section
variable {α : Type} [DecidableEq α]
def cnt (s : List α) (c : α) : Nat := s.count c
def cG (s : List α) : α → Option Nat := fun c => if cnt s c = 0 then none else some (cnt s c)
theorem cG_get (s : List α) (c : α) : (cG s c).getD 0 = cnt s c := by
  unfold cG cnt
  by_cases h : s.count c = 0
  · rw [if_pos h, h]; rfl
  · rw [if_neg h]; rfl
theorem cG_step (s : List α) (x : α) : (fun d => if d = x then some (cnt s x + 1) else cG s d) = cG (s ++ [x]) := by
  funext d
  unfold cG cnt
  by_cases h : d = x
  · subst h
    rw [if_pos rfl, List.count_append, List.count_singleton_self, if_neg (by omega)]
  · rw [if_neg h, List.count_append, show List.count d [x] = 0 by
      rw [List.count_eq_zero]
      simp [h]]
    rfl
theorem cG_some (s : List α) (c : α) : (∃ u, cG s c = some u) ↔ c ∈ s := by
  unfold cG cnt
  by_cases h : s.count c = 0
  · rw [if_pos h]
    exact ⟨fun ⟨u, hu⟩ => (by cases hu), fun hm => absurd h (by rw [List.count_eq_zero]; exact fun hn => hn hm)⟩
  · rw [if_neg h]
    refine ⟨fun _ => ?_, fun _ => ⟨_, rfl⟩⟩
    by_cases hm : c ∈ s
    · exact hm
    · exact absurd (List.count_eq_zero.2 hm) h
theorem cG_nil : (cG ([] : List α)) = fun _ => none := by
  funext d
  rfl
theorem sum_add_ind (ps : List α) (f : α → Nat) (x : α) : (ps.map fun p => f p + if p = x then 1 else 0).sum = (ps.map f).sum + ps.count x := by
  induction ps with
  | nil => rfl
  | cons p ps ih =>
    rw [List.map_cons, List.sum_cons, List.map_cons, List.sum_cons, ih, List.count_cons]
    by_cases h : p = x
    · simp [h]; omega
    · simp [h]; omega
theorem nodup_count (ps : List α) (x : α) (hn : ps.Nodup) (hm : x ∈ ps) : ps.count x = 1 := by
  have h1 := List.nodup_iff_count.1 hn x
  have h2 := List.count_pos_iff.2 hm
  omega
theorem sum_counts (s ps : List α) (hn : ps.Nodup) (hm : ∀ c ∈ s, c ∈ ps) : (ps.map fun p => cnt s p).sum = s.length := by
  unfold cnt
  induction s with
  | nil =>
    induction ps with
    | nil => rfl
    | cons p ps ih =>
      rw [List.map_cons, List.sum_cons, ih (List.nodup_cons.1 hn).2 (fun c h => by simp at h)]
      rfl
  | cons x s ih =>
    have h1 := ih (fun c h => hm c (List.mem_cons_of_mem _ h))
    have h2 : (fun p => (x :: s).count p) = fun p => s.count p + if p = x then 1 else 0 := by
      funext p
      rw [List.count_cons]
      by_cases h : x = p
      · simp [h]
      · have : ¬ p = x := fun e => h e.symm
        simp [h, this]
    rw [h2, sum_add_ind, h1, nodup_count ps x hn (hm x (List.mem_cons_self ..))]
    rfl
theorem cnt_pos (s : List α) (c : α) : 0 < cnt s c ↔ c ∈ s := List.count_pos_iff
theorem cnt_le (s : List α) (c : α) : cnt s c ≤ s.length := List.count_le_length
theorem cnt_add (s : List α) (x c : α) : cnt (s ++ [x]) c = cnt s c + if c = x then 1 else 0 := by
  unfold cnt
  rw [List.count_append]
  by_cases h : c = x
  · rw [h, List.count_singleton_self, if_pos rfl]
  · rw [if_neg h, List.count_eq_zero.2 (fun hm => h (List.mem_singleton.1 hm))]
theorem nodup_len : ∀ (ps s : List α), ps.Nodup → (∀ c ∈ ps, c ∈ s) → ps.length ≤ s.length
  | [], s, _, _ => Nat.zero_le _
  | p :: ps, s, hn, hm => by
    have hp := hm p (List.mem_cons_self ..)
    have h1 := nodup_len ps (s.erase p) (List.nodup_cons.1 hn).2 (fun c hc => (List.mem_erase_of_ne (fun e => (List.nodup_cons.1 hn).1 (by rw [← e]; exact hc))).2 (hm c (List.mem_cons_of_mem _ hc)))
    rw [List.length_erase_of_mem hp] at h1
    have h2 : 0 < s.length := List.length_pos_of_mem hp
    show ps.length + 1 ≤ s.length
    omega
theorem count_pos' (s : List α) (c : α) (h : c ∈ s) : 0 < s.count c := List.count_pos_iff.2 h
theorem take_succ' {β : Type} (l : List β) (d : β) (k : Nat) (h : k < l.length) : l.take (k + 1) = l.take k ++ [l.getD k d] := by
  rw [List.take_add_one, List.getD_eq_getElem?_getD, List.getElem?_eq_getElem h]
  rfl
theorem map_take_succ' {β γ : Type} (l : List β) (f : β → γ) (d : β) (k : Nat) (h : k < l.length) : (l.map f).take (k + 1) = (l.map f).take k ++ [f (l.getD k d)] := by
  rw [← List.map_take, ← List.map_take, take_succ' l d k h, List.map_append]
  rfl
end
def sm2 (c : K × K) : K × K := (sm c.1, sm c.2)
theorem sm2_ok (c : K × K) : okp (sm2 c) := ⟨sm_ok _, sm_ok _⟩
theorem sums_le {β : Type} : ∀ (l : List β) (f : β → Nat) (m : Nat), (∀ x, f x ≤ m) → (l.map f).sum ≤ m * l.length
  | [], _, m, _ => by simp
  | x :: l, f, m, h => by
    have h1 := sums_le l f m h
    have h2 := h x
    rw [List.map_cons, List.sum_cons, List.length_cons, Nat.mul_succ]
    omega
theorem num_inj {x y : K} (hx : x.ok) (hy : y.ok) (h : x.num = y.num) : x = y := by
  unfold K.ok at *
  unfold K.num at h
  cases x; cases y
  simp only [K.mk.injEq]
  dsimp only at *
  omega
theorem pcmp_tri {a b : K × K} (h1 : ¬ pcmp b a < 0) (ha : okp a) (hb : okp b) (hne : a ≠ b) : pcmp a b < 0 := by
  rw [pcmp_lt] at *
  by_cases e1 : a.1.num = b.1.num
  · by_cases e2 : a.2.num = b.2.num
    · exact absurd (Prod.ext (num_inj ha.1 hb.1 e1) (num_inj ha.2 hb.2 e2)) hne
    · omega
  · omega
end Go.Proofs.YtahagfdjpldblaaGreatDoor

namespace Go.Proofs.YtahagfdjpldblaaGreatDoor
open Go.RowKit Ky
set_option linter.unusedVariables false
set_option linter.unusedSimpArgs false

def ssum (s : List (K × Int)) (c : K) : Int := ((s.filter fun x => decide (x.1 = c)).map (·.2)).sum
def sG (s : List (K × Int)) : K → Option Int := fun c => if c ∈ s.map (·.1) then some (ssum s c) else none
theorem sG_nil : (sG []) = fun _ => none := by
  funext c
  simp [sG]
theorem ssum_add (s : List (K × Int)) (x : K × Int) (c : K) : ssum (s ++ [x]) c = ssum s c + if x.1 = c then x.2 else 0 := by
  unfold ssum
  rw [List.filter_append, List.map_append, List.sum_append]
  by_cases h : x.1 = c
  · simp [h]
  · simp [h]
theorem ssum_none (s : List (K × Int)) (c : K) (h : c ∉ s.map (·.1)) : ssum s c = 0 := by
  unfold ssum
  have e : (s.filter fun x => decide (x.1 = c)) = [] := by
    rw [List.filter_eq_nil_iff]
    intro x hx
    simp only [decide_eq_true_eq]
    exact fun e => h (List.mem_map.2 ⟨x, hx, e⟩)
  rw [e]
  rfl
theorem sG_get (s : List (K × Int)) (c : K) : (sG s c).getD 0 = ssum s c := by
  unfold sG
  by_cases h : c ∈ s.map (·.1)
  · rw [if_pos h]; rfl
  · rw [if_neg h, ssum_none s c h]; rfl
theorem sG_step (s : List (K × Int)) (x : K × Int) : (fun d => if d = x.1 then some (ssum s x.1 + x.2) else sG s d) = sG (s ++ [x]) := by
  funext d
  unfold sG
  rw [ssum_add]
  by_cases h : d = x.1
  · subst h
    rw [if_pos rfl, if_pos rfl, if_pos (by simp)]
  · have h2 : ¬ x.1 = d := fun e => h e.symm
    rw [if_neg h, if_neg h2, Int.add_zero]
    by_cases c : d ∈ s.map (·.1)
    · rw [if_pos c, if_pos (by rw [List.map_append]; exact List.mem_append_left _ c)]
    · rw [if_neg c, if_neg (by rw [List.map_append, List.mem_append]; rintro (e | e); exact c e; simp at e; exact h e)]
theorem sG_some (s : List (K × Int)) (c : K) : (∃ u, sG s c = some u) ↔ c ∈ s.map (·.1) := by
  unfold sG
  by_cases h : c ∈ s.map (·.1)
  · rw [if_pos h]
    exact ⟨fun _ => h, fun _ => ⟨_, rfl⟩⟩
  · rw [if_neg h]
    exact ⟨fun ⟨u, hu⟩ => (by cases hu), fun hm => absurd hm h⟩
def sms (x : K × Int) : K × Int := (sm x.1, x.2)
/-- a list without twins that has just a map's keys is as long as the map -/
theorem perm_len {α : Type} [DecidableEq α] : ∀ (l m : List α), l.Nodup → m.Nodup → (∀ c, c ∈ l ↔ c ∈ m) → l.length = m.length := fun l m h1 h2 h =>
  Nat.le_antisymm (nodup_len l m h1 (fun c hc => (h c).1 hc)) (nodup_len m l h2 (fun c hc => (h c).2 hc))
theorem nodup_map {α β : Type} (f : α → β) (hf : ∀ c d, f c = f d → c = d) : ∀ (l : List α), l.Nodup → (l.map f).Nodup
  | [], _ => List.nodup_nil
  | x :: l, h => by
    rw [List.nodup_cons] at h
    rw [List.map_cons, List.nodup_cons]
    refine ⟨fun hm => ?_, nodup_map f hf l h.2⟩
    obtain ⟨y, hy, e⟩ := List.mem_map.1 hm
    exact h.1 (hf _ _ e ▸ hy)
theorem MapIs.count {κ ν : Type} [DecidableEq κ] {w : World} {P : Program} {k : TypeId} {enc : κ → Value} {vl : ν → Value} {b n : Nat} {G : κ → Option ν} (h : MapIs w P k enc vl b n G) (hinj : ∀ c d, enc c = enc d → c = d) (l : List κ) (hl : l.Nodup) (hm : ∀ c, c ∈ l ↔ ∃ u, G c = some u) :
    ∃ es clock, w.heap[b]? = some (.map es clock) ∧ es.size = l.length := by
  obtain ⟨es, clock, hb, F, _, H1, H2⟩ := h
  refine ⟨es, clock, hb, ?_⟩
  have hnd : (es.toList.map (·.key)).Nodup := F.stamped.2.2
  have e1 : (es.toList.map (·.key)).Perm (l.map enc) := by
    rw [List.perm_ext_iff_of_nodup hnd (nodup_map enc hinj l hl)]
    intro v
    constructor
    · intro hv
      obtain ⟨x, hx, rfl⟩ := List.mem_map.1 hv
      obtain ⟨c, u, hk, _, hg⟩ := H1 x hx
      exact List.mem_map.2 ⟨c, (hm c).2 ⟨u, hg⟩, hk.symm⟩
    · intro hv
      obtain ⟨c, hc, rfl⟩ := List.mem_map.1 hv
      obtain ⟨u, hu⟩ := (hm c).1 hc
      obtain ⟨x, hx, hk, _⟩ := H2 c u hu
      exact List.mem_map.2 ⟨x, hx, hk⟩
  have e2 := e1.length_eq
  simpa using e2
end Go.Proofs.YtahagfdjpldblaaGreatDoor

namespace Go.Proofs.YtahagfdjpldblaaGreatDoor
open Go.RowKit Ky Go.ChangeShapes Go.WideShapes
set_option linter.unusedVariables false
set_option linter.unusedSimpArgs false

def mc (x : K × Int) : List Value := [.int .u32 (x.1.a : Int), .int .u16 (x.1.e : Int), .int .u16 (x.1.p : Int), .int .i64 x.2]
def okm (x : K × Int) : Prop := x.1.ok ∧ Wd.I64 x.2
def mk0 : K × Int := (⟨0, 0, 0⟩, 0)
theorem mc_len (x : K × Int) : (mc x).length = 4 := rfl
section
variable {H : Type} {enc : TypeId × Value → H} {P : Program} {W : World} {base : Nat} {sp : Nat → Bool} {held : Bool}
theorem rd_more (n : Nat) (cs : List Value) (y : DataW H × List MemPlace) (h : DataW.trod enc Tryz.prog W base sp held n 31 cs = some y) : ∃ x : K × Int, okm x ∧ cs = mc x := by
  have c0 : Tryz.prog.cellsOf 31 = 4 := by kernel_rfl
  have c1 : Tryz.prog.cellsOf 29 = 3 := by kernel_rfl
  have c2 : Tryz.prog.cellsOf 2 = 1 := by kernel_rfl
  obtain ⟨xs, m, _, _, hl, hx, hf⟩ := DataW.trod_struct Tryz.underlying31 h
  rw [c0] at hl
  obtain ⟨x0, x1, x2, x3, rfl⟩ := list4 hl
  have g0 := hf 0 _ rfl
  have g1 := hf 1 _ rfl
  simp [c1, c2] at g0 g1
  obtain ⟨y0, y1, rfl⟩ := list2 hx
  simp at g0 g1
  obtain ⟨k, hk, e0⟩ := rd_key _ _ _ g0
  obtain ⟨z1, e1, _, b1⟩ := DataW.trod_int Tryz.underlying2 g1
  simp at e0 e1
  obtain ⟨rfl, rfl, rfl⟩ := e0
  subst e1
  have b1 := Go.bounds_i64 b1
  exact ⟨(k, z1), ⟨hk, b1⟩, rfl⟩
theorem open_mores {a : Option Addr} {len cap : Nat} {d0 : DataW H} {ps : List MemPlace} (h : DataW.Trod enc Tryz.prog W base sp held 22 (.slice a len cap) d0 ps) :
    ∃ l : List (K × Int), l.length = len ∧ (∀ x ∈ l, okm x) ∧ ElsAt mc 4 mk0 W a l ∧ len ≤ cap ∧ cap ≤ maxLen :=
  open_els mc 4 mk0 okm Tryz.underlying22 (by kernel_rfl) (by omega) mc_len rd_more h
end
end Go.Proofs.YtahagfdjpldblaaGreatDoor
