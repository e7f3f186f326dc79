/-
  Own texts, several in one (Small, In, Count).
-/
import Derived.Test.YtahagfdjpldblaaGreatDoorMrg12
import Derived.Deep.SlicePairs
import Derived.Deep.MidRow
import Derived.OpenShut
import Derived.Lib.SmallJoins
namespace Go.Proofs.YtahagfdjpldblaaGreatDoor
open Go.RowKit Ky
set_option linter.unusedVariables false
set_option linter.unusedSimpArgs false

def sm (k : K) : K := ⟨k.a % 4, k.e % 3, k.p % 3⟩
theorem sm_ok (k : K) : (sm k).ok := by unfold K.ok sm; dsimp only; omega
theorem small_any (k : K) (hk : k.ok) (w : World) : Calls Tryz.prog 8 #[k.val] w fun e w' => e = .returned (sm k).val ∧ Below w.heap.size w w' := by
  obtain ⟨ha, he, hp⟩ := hk
  unfold K.val sm
  go_enter Tryz.func8, Tryz.ntmps8
  go_wp2
  refine bodyPost_ret (v := .agg #[.int .u32 ((k.a % 4 : Nat) : Int), .int .u16 ((k.e % 3 : Nat) : Int), .int .u16 ((k.p % 3 : Nat) : Int)]) ?_ rfl ⟨rfl, ?_⟩
  · simp [results, Tryz.results8, go_sem]
  · exact below_alloc (below_alloc (Below.refl _ w) _) _
theorem sorted_none (w : World) : Calls Tryz.prog 29 #[.map none, .func (.func 30) #[] #[]] w fun e w' => e = .returned (.slice none 0 0) ∧ Below w.heap.size w w' := by
  have HN := Lib.hid fun W => AnyF.slices_SortFunc_none { Tryz.laysSlF06_f37 with } none 0 (.func (.func 30) #[] #[]) W
  have hrg := run_range_nilMap (P := Tryz.prog) w 50 49 3 Tryz.underlying50
  have hnx := run_next_nilMap (P := Tryz.prog) w 0 0 0 #[]
  go_enter Tryz.func29, Tryz.ntmps29
  go_wp2_with fail
  refine wp_loop_rounds 1 ?_
  rw [rounds_succ]
  go_wp2_with fail
  refine (HN.out _).mono ?_
  rintro _ w1 ⟨rfl, rfl⟩
  go_wp2
  go_ret
  exact ⟨rfl, below_alloc (Below.refl _ w) _⟩
theorem pairs_none (w : World) : Calls Tryz.prog 16 #[.map none] w fun e w' => e = .returned (.slice none 0 0) ∧ Below w.heap.size w w' := by
  go_enter Tryz.func16, Tryz.ntmps16
  go_wp2_with fail
  refine (sorted_none _).mono ?_
  rintro _ w1 ⟨rfl, hb⟩
  go_wp2
  go_ret
  exact ⟨rfl, hb⟩
end Go.Proofs.YtahagfdjpldblaaGreatDoor

namespace Go.Proofs.YtahagfdjpldblaaGreatDoor
open Go.RowKit Ky Go.ChangeShapes Go.WideShapes
set_option linter.unusedVariables false
set_option linter.unusedSimpArgs false

/-- these lie one behind the other from this address on -/
def ElsAt {E : Type} (f : E → List Value) (sz : Nat) (d : E) (w : World) (a : Option Addr) (l : List E) : Prop :=
  l = [] ∨ ∃ b off, a = some ⟨b, off, none⟩ ∧ ∀ i, i < l.length → w.rangeAt b (off + i * sz) (f (l.getD i d))
theorem ElsAt.below {E : Type} {f : E → List Value} {sz : Nat} {d : E} {w w' : World} {a : Option Addr} {l : List E} (h : ElsAt f sz d w a l) (hb : Below w.heap.size w w') : ElsAt f sz d w' a l := by
  rcases h with h | ⟨b, off, e, h⟩
  · exact .inl h
  · exact .inr ⟨b, off, e, fun i hi j v hv => cell_then (h i hi j v hv) hb⟩
theorem range_below {w w' : World} {b o : Nat} {cs : List Value} (h : w.rangeAt b o cs) (hb : Below w.heap.size w w') : w'.rangeAt b o cs := fun j v hv => cell_then (h j v hv) hb

theorem list2 {α : Type} {l : List α} (h : l.length = 2) : ∃ a b, l = [a, b] := by
  match l, h with
  | [a, b], _ => exact ⟨a, b, rfl⟩
theorem list3 {α : Type} {l : List α} (h : l.length = 3) : ∃ a b c, l = [a, b, c] := by
  match l, h with
  | [a, b, c], _ => exact ⟨a, b, c, rfl⟩
theorem list4 {α : Type} {l : List α} (h : l.length = 4) : ∃ a b c d, l = [a, b, c, d] := by
  match l, h with
  | [a, b, c, d], _ => exact ⟨a, b, c, d, rfl⟩
theorem list6 {α : Type} {l : List α} (h : l.length = 6) : ∃ a b c d e f, l = [a, b, c, d, e, f] := by
  match l, h with
  | [a, b, c, d, e, f], _ => exact ⟨a, b, c, d, e, f, rfl⟩
section
variable {H : Type} {enc : TypeId × Value → H} {P : Program} {W : World} {base : Nat} {sp : Nat → Bool} {held : Bool}
theorem open_els {E : Type} (f : E → List Value) (sz : Nat) (d : E) (ok : E → Prop) {t e : TypeId} (ht : P.underlying t = some (.slice e)) (hsz : P.cellsOf e = sz) (hpos : 0 < sz) (hlen : ∀ x, (f x).length = sz)
    (hrd : ∀ n cs y, DataW.trod enc P W base sp held n e cs = some y → ∃ x, ok x ∧ cs = f x)
    {a : Option Addr} {len cap : Nat} {d0 : DataW H} {ps : List MemPlace} (h : DataW.Trod enc P W base sp held t (.slice a len cap) d0 ps) :
    ∃ l : List E, l.length = len ∧ (∀ x ∈ l, ok x) ∧ ElsAt f sz d W a l ∧ len ≤ cap ∧ cap ≤ maxLen := by
  obtain ⟨fuel, hf⟩ := h
  rcases Deep.open_slice ht hf with ⟨h1, _⟩ | ⟨a', len', cap', m, n, D, Pl, h1, hb, hl, hm, hmm, _, hx⟩
  · simp [Value.cells] at h1
    obtain ⟨rfl, rfl, rfl⟩ := h1
    exact ⟨[], rfl, by simp, .inl rfl, Nat.le_refl _, Nat.zero_le _⟩
  · simp [Value.cells] at h1
    obtain ⟨rfl, rfl, rfl⟩ := h1
    have hlm : len ≤ m := by rw [hmm]; split <;> omega
    obtain ⟨q, hq⟩ := Deep.choose_lt (n := len) (α := Option E) (p := fun i x => ∃ y, x = some y ∧ ok y ∧ ∀ j v, (f y)[j]? = some v → W.cell? ((a'.add (i * sz)).add j) = some v) (fun i hi => by
      obtain ⟨cs', h1, h2⟩ := hx i (by omega)
      obtain ⟨y, hy, rfl⟩ := hrd _ _ _ h2
      rw [hsz] at h1
      obtain ⟨_, hlen2, hcell⟩ := World.cells?_some h1
      refine ⟨some y, y, rfl, hy, fun j v hv => ?_⟩
      have hj : j < sz := by
        by_cases c : j < sz
        · exact c
        · rw [List.getElem?_eq_none (by rw [hlen]; omega)] at hv; cases hv
      rw [hcell j hj, hv])
    have hg : ∀ i, i < len → ((List.range len).map fun i => (q i).getD d).getD i d = (q i).getD d := fun i hi => by
      rw [List.getD_eq_getElem?_getD, List.getElem?_map, List.getElem?_range hi]
      rfl
    refine ⟨(List.range len).map fun i => (q i).getD d, by simp, ?_, ?_, hl, hm⟩
    · intro x hx
      obtain ⟨i, hi, rfl⟩ := List.mem_map.1 hx
      obtain ⟨y, e, hy, _⟩ := hq i (List.mem_range.1 hi)
      rw [e]
      exact hy
    · by_cases h0 : len = 0
      · left
        rw [h0]
        rfl
      · right
        obtain ⟨b, off, spot⟩ := a'
        obtain ⟨y0, e0, _, h00⟩ := hq 0 (by omega)
        obtain ⟨v0, hv0⟩ : ∃ v, (f y0)[0]? = some v := ⟨_, List.getElem?_eq_getElem (by rw [hlen]; exact hpos)⟩
        have h00 := h00 0 v0 hv0
        have hs : spot = none := by
          cases spot with
          | none => rfl
          | some k =>
            simp only [World.cell?, Addr.add, Nat.zero_mul] at h00
            split at h00 <;> simp at h00
        subst hs
        refine ⟨b, off, rfl, fun i hi j v hv => ?_⟩
        have hi : i < len := by simpa using hi
        rw [hg i hi] at hv
        obtain ⟨y, e, _, h3⟩ := hq i hi
        rw [e] at hv
        have h4 := h3 j v hv
        rw [Addr.add_mid, Addr.add_mid] at h4
        exact h4
theorem rd_key (n : Nat) (cs : List Value) (y : DataW H × List MemPlace) (h : DataW.trod enc Tryz.prog W base sp held n 29 cs = some y) : ∃ k : K, k.ok ∧ cs = [.int .u32 (k.a : Int), .int .u16 (k.e : Int), .int .u16 (k.p : Int)] := by
  have c0 : Tryz.prog.cellsOf 29 = 3 := by kernel_rfl
  have c1 : Tryz.prog.cellsOf 26 = 1 := by kernel_rfl
  have c2 : Tryz.prog.cellsOf 27 = 1 := by kernel_rfl
  obtain ⟨xs, m, _, _, hl, hx, hf⟩ := DataW.trod_struct Tryz.underlying29 h
  rw [c0] at hl
  obtain ⟨x0, x1, x2, rfl⟩ := list3 hl
  have g0 := hf 0 _ rfl
  have g1 := hf 1 _ rfl
  have g2 := hf 2 _ rfl
  simp [c1, c2] at g0 g1 g2
  obtain ⟨y0, y1, y2, rfl⟩ := list3 hx
  simp at g0 g1 g2
  obtain ⟨z0, e0, _, b0⟩ := DataW.trod_int Tryz.underlying26 g0
  obtain ⟨z1, e1, _, b1⟩ := DataW.trod_int Tryz.underlying27 g1
  obtain ⟨z2, e2, _, b2⟩ := DataW.trod_int Tryz.underlying27 g2
  simp at e0 e1 e2
  subst e0 e1 e2
  have b0 := Go.bounds_u32 b0
  have b1 := Go.bounds_u16 b1
  have b2 := Go.bounds_u16 b2
  refine ⟨⟨z0.toNat, z1.toNat, z2.toNat⟩, ⟨by dsimp only; omega, by dsimp only; omega, by dsimp only; omega⟩, ?_⟩
  dsimp only
  rw [Int.toNat_of_nonneg b0.1, Int.toNat_of_nonneg b1.1, Int.toNat_of_nonneg b2.1]
theorem rd_pair (n : Nat) (cs : List Value) (y : DataW H × List MemPlace) (h : DataW.trod enc Tryz.prog W base sp held n 49 cs = some y) : ∃ c : K × K, okp c ∧ cs = pc c := by
  have c0 : Tryz.prog.cellsOf 49 = 6 := by kernel_rfl
  have c1 : Tryz.prog.cellsOf 29 = 3 := by kernel_rfl
  obtain ⟨xs, m, _, _, hl, hx, hf⟩ := DataW.trod_array Tryz.underlying49 h
  rw [c0] at hl
  obtain ⟨x0, x1, x2, x3, x4, x5, rfl⟩ := list6 hl
  have g0 := hf 0 (by omega)
  have g1 := hf 1 (by omega)
  simp [c1] at g0 g1
  obtain ⟨y0, y1, rfl⟩ := list2 hx
  simp at g0 g1
  obtain ⟨k, hk, e1⟩ := rd_key _ _ _ g0
  obtain ⟨k', hk', e2⟩ := rd_key _ _ _ g1
  simp at e1 e2
  obtain ⟨rfl, rfl, rfl⟩ := e1
  obtain ⟨rfl, rfl, rfl⟩ := e2
  exact ⟨(k, k'), ⟨hk, hk'⟩, rfl⟩
theorem open_pairs {a : Option Addr} {len cap : Nat} {d0 : DataW H} {ps : List MemPlace} (h : DataW.Trod enc Tryz.prog W base sp held 48 (.slice a len cap) d0 ps) :
    ∃ l : List (K × K), l.length = len ∧ (∀ x ∈ l, okp x) ∧ ElsAt pc 6 pk0.1 W a l ∧ len ≤ cap ∧ cap ≤ maxLen :=
  open_els pc 6 pk0.1 okp Tryz.underlying48 (by kernel_rfl) (by omega) pc_len rd_pair h
theorem okWide_array {t e : TypeId} {n : Nat} {r : Reach} {v : Value} (ht : P.underlying t = some (.array n e)) (h : Value.okWide P W r base t v) : ∃ cs, v = .agg cs := by
  simp only [Value.okWide, ht] at h
  obtain ⟨cs, h1, _⟩ := h
  exact ⟨cs, h1⟩
set_option maxRecDepth 100000 in
theorem open_pair {r : Reach} {b0 : Nat} {v : Value} {d : DataW H} {ps : List MemPlace} (hval : Value.okWide Tryz.prog W r b0 49 v) (h : DataW.Trod enc Tryz.prog W base sp held 49 v d ps) : ∃ c : K × K, okp c ∧ v = .agg (pc c).toArray := by
  obtain ⟨n, hn⟩ := h
  obtain ⟨c, hc, e⟩ := rd_pair _ _ _ hn
  obtain ⟨cs, rfl⟩ := okWide_array Tryz.underlying49 hval
  refine ⟨c, hc, ?_⟩
  have e2 : cs.toList = pc c := e
  rw [← e2]
end
end Go.Proofs.YtahagfdjpldblaaGreatDoor

namespace Go.Proofs.YtahagfdjpldblaaGreatDoor
open Go.RowKit Ky
set_option linter.unusedVariables false
set_option linter.unusedSimpArgs false

section
variable {α : Type} [DecidableEq α]
def cnt (s : List α) (c : α) : Nat := s.count c
def cG (s : List α) : α → Option Nat := fun c => if cnt s c = 0 then none else some (cnt s c)
theorem cG_get (s : List α) (c : α) : (cG s c).getD 0 = cnt s c := by
  unfold cG cnt
  by_cases h : s.count c = 0
  · rw [if_pos h, h]; rfl
  · rw [if_neg h]; rfl
theorem cG_step (s : List α) (x : α) : (fun d => if d = x then some (cnt s x + 1) else cG s d) = cG (s ++ [x]) := by
  funext d
  unfold cG cnt
  by_cases h : d = x
  · subst h
    rw [if_pos rfl, List.count_append, List.count_singleton_self, if_neg (by omega)]
  · rw [if_neg h, List.count_append, show List.count d [x] = 0 by
      rw [List.count_eq_zero]
      simp [h]]
    rfl
theorem cG_some (s : List α) (c : α) : (∃ u, cG s c = some u) ↔ c ∈ s := by
  unfold cG cnt
  by_cases h : s.count c = 0
  · rw [if_pos h]
    exact ⟨fun ⟨u, hu⟩ => (by cases hu), fun hm => absurd h (by rw [List.count_eq_zero]; exact fun hn => hn hm)⟩
  · rw [if_neg h]
    refine ⟨fun _ => ?_, fun _ => ⟨_, rfl⟩⟩
    by_cases hm : c ∈ s
    · exact hm
    · exact absurd (List.count_eq_zero.2 hm) h
theorem cG_nil : (cG ([] : List α)) = fun _ => none := by
  funext d
  rfl
theorem sum_add_ind (ps : List α) (f : α → Nat) (x : α) : (ps.map fun p => f p + if p = x then 1 else 0).sum = (ps.map f).sum + ps.count x := by
  induction ps with
  | nil => rfl
  | cons p ps ih =>
    rw [List.map_cons, List.sum_cons, List.map_cons, List.sum_cons, ih, List.count_cons]
    by_cases h : p = x
    · simp [h]; omega
    · simp [h]; omega
theorem nodup_count (ps : List α) (x : α) (hn : ps.Nodup) (hm : x ∈ ps) : ps.count x = 1 := by
  have h1 := List.nodup_iff_count.1 hn x
  have h2 := List.count_pos_iff.2 hm
  omega
theorem sum_counts (s ps : List α) (hn : ps.Nodup) (hm : ∀ c ∈ s, c ∈ ps) : (ps.map fun p => cnt s p).sum = s.length := by
  unfold cnt
  induction s with
  | nil =>
    induction ps with
    | nil => rfl
    | cons p ps ih =>
      rw [List.map_cons, List.sum_cons, ih (List.nodup_cons.1 hn).2 (fun c h => by simp at h)]
      rfl
  | cons x s ih =>
    have h1 := ih (fun c h => hm c (List.mem_cons_of_mem _ h))
    have h2 : (fun p => (x :: s).count p) = fun p => s.count p + if p = x then 1 else 0 := by
      funext p
      rw [List.count_cons]
      by_cases h : x = p
      · simp [h]
      · have : ¬ p = x := fun e => h e.symm
        simp [h, this]
    rw [h2, sum_add_ind, h1, nodup_count ps x hn (hm x (List.mem_cons_self ..))]
    rfl
theorem cnt_pos (s : List α) (c : α) : 0 < cnt s c ↔ c ∈ s := List.count_pos_iff
theorem cnt_le (s : List α) (c : α) : cnt s c ≤ s.length := List.count_le_length
theorem cnt_add (s : List α) (x c : α) : cnt (s ++ [x]) c = cnt s c + if c = x then 1 else 0 := by
  unfold cnt
  rw [List.count_append]
  by_cases h : c = x
  · rw [h, List.count_singleton_self, if_pos rfl]
  · rw [if_neg h, List.count_eq_zero.2 (fun hm => h (List.mem_singleton.1 hm))]
theorem nodup_len : ∀ (ps s : List α), ps.Nodup → (∀ c ∈ ps, c ∈ s) → ps.length ≤ s.length
  | [], s, _, _ => Nat.zero_le _
  | p :: ps, s, hn, hm => by
    have hp := hm p (List.mem_cons_self ..)
    have h1 := nodup_len ps (s.erase p) (List.nodup_cons.1 hn).2 (fun c hc => (List.mem_erase_of_ne (fun e => (List.nodup_cons.1 hn).1 (by rw [← e]; exact hc))).2 (hm c (List.mem_cons_of_mem _ hc)))
    rw [List.length_erase_of_mem hp] at h1
    have h2 : 0 < s.length := List.length_pos_of_mem hp
    show ps.length + 1 ≤ s.length
    omega
theorem count_pos' (s : List α) (c : α) (h : c ∈ s) : 0 < s.count c := List.count_pos_iff.2 h
theorem take_succ' {β : Type} (l : List β) (d : β) (k : Nat) (h : k < l.length) : l.take (k + 1) = l.take k ++ [l.getD k d] := by
  rw [List.take_add_one, List.getD_eq_getElem?_getD, List.getElem?_eq_getElem h]
  rfl
theorem map_take_succ' {β γ : Type} (l : List β) (f : β → γ) (d : β) (k : Nat) (h : k < l.length) : (l.map f).take (k + 1) = (l.map f).take k ++ [f (l.getD k d)] := by
  rw [← List.map_take, ← List.map_take, take_succ' l d k h, List.map_append]
  rfl
end
def sm2 (c : K × K) : K × K := (sm c.1, sm c.2)
theorem sm2_ok (c : K × K) : okp (sm2 c) := ⟨sm_ok _, sm_ok _⟩
theorem sums_le {β : Type} : ∀ (l : List β) (f : β → Nat) (m : Nat), (∀ x, f x ≤ m) → (l.map f).sum ≤ m * l.length
  | [], _, m, _ => by simp
  | x :: l, f, m, h => by
    have h1 := sums_le l f m h
    have h2 := h x
    rw [List.map_cons, List.sum_cons, List.length_cons, Nat.mul_succ]
    omega
theorem num_inj {x y : K} (hx : x.ok) (hy : y.ok) (h : x.num = y.num) : x = y := by
  unfold K.ok at *
  unfold K.num at h
  cases x; cases y
  simp only [K.mk.injEq]
  dsimp only at *
  omega
theorem pcmp_tri {a b : K × K} (h1 : ¬ pcmp b a < 0) (ha : okp a) (hb : okp b) (hne : a ≠ b) : pcmp a b < 0 := by
  rw [pcmp_lt] at *
  by_cases e1 : a.1.num = b.1.num
  · by_cases e2 : a.2.num = b.2.num
    · exact absurd (Prod.ext (num_inj ha.1 hb.1 e1) (num_inj ha.2 hb.2 e2)) hne
    · omega
  · omega
end Go.Proofs.YtahagfdjpldblaaGreatDoor
