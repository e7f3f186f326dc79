/-
  Own texts, several in one (SortedK, Totals, In2).
-/
import Derived.Test.YtahagfdjpldblaaGreatDoorMrg12
import Derived.Test.YtahagfdjpldblaaGreatDoorMrg13
namespace Go.Proofs.YtahagfdjpldblaaGreatDoor
open Go.RowKit Ky
open Go.Maps (Keyed)
open Go.ChangeMaps (setBlock)
open Go.WideElems (Fit)
set_option linter.unusedVariables false
set_option linter.unusedSimpArgs false

def kc (c : K) : List Value := [.int .u32 (c.a : Int), .int .u16 (c.e : Int), .int .u16 (c.p : Int)]
def kcs (l : List K) : List Value := l.flatMap kc
theorem kval_kc (c : K) : c.val = .agg (kc c).toArray := rfl
def wval (n : Int) : Value := .agg #[.int .i64 (Wd.hi n), .int .u64 (Wd.lo n)]
/-- what has been met so far of a map -/
def CollK (es : Array MapEntry) (seen : Array Nat) (l : List K) : Prop := l.Nodup ∧ ∀ c, c ∈ l ↔ ∃ x ∈ es.toList, x.key = K.val c ∧ seen.contains x.born = true
theorem CollK.start (es : Array MapEntry) : CollK es #[] [] := ⟨List.nodup_nil, fun c => ⟨fun h => (by cases h), fun ⟨x, _, _, h⟩ => by simp at h⟩⟩
theorem CollK.step {es : Array MapEntry} {seen : Array Nat} {l : List K} (h : CollK es seen l) {clock : Nat} (hs : MapKept.Stamped es clock) {x : MapEntry} (hx : x ∈ (leftOf es seen).toList) {c : K} (hc : x.key = K.val c) : CollK es (seen.push x.born) (l ++ [c]) := by
  obtain ⟨hxe, hxs⟩ := mem_left hx
  obtain ⟨s1, s2, s3⟩ := hs
  have hkey : ∀ y ∈ es.toList, y.key = x.key → y = x := by
    intro y hy hk
    exact key_inj s3 hy hxe hk
  have hnot : c ∉ l := fun h1 => by
    obtain ⟨y, hy, hk, hse⟩ := (h.2 c).1 h1
    have := hkey y hy (hk.trans hc.symm)
    subst this
    rw [hxs] at hse
    cases hse
  refine ⟨List.nodup_append.2 ⟨h.1, by simp, fun a ha d hd => ?_⟩, fun d => ?_⟩
  · simp at hd
    subst hd
    intro e
    subst e
    exact hnot ha
  · rw [List.mem_append, List.mem_singleton, h.2 d]
    constructor
    · rintro (⟨y, hy, hk, hse⟩ | rfl)
      · exact ⟨y, hy, hk, by rw [contains_push, hse]; rfl⟩
      · exact ⟨x, hxe, hc, by rw [contains_push]; simp⟩
    · rintro ⟨y, hy, hk, hse⟩
      rw [contains_push, Bool.or_eq_true] at hse
      rcases hse with hse | hse
      · exact .inl ⟨y, hy, hk, hse⟩
      · have hb : y.born = x.born := beq_iff_eq.1 hse
        have := born_inj s2 hy hxe hb
        subst this
        exact .inr (val_inj _ _ (hk.symm.trans hc))
theorem info_key : ∃ i, Tryz.prog.info? 29 = some i ∧ i.zero = some (.agg (kc ⟨0, 0, 0⟩).toArray) ∧ i.size = 3 ∧ i.bytes = 8 := by
  have h : (Tryz.prog.info? 29).map (fun i => (i.zero, i.size, i.bytes)) = some (some (.agg (kc ⟨0, 0, 0⟩).toArray), 3, 8) := by kernel_rfl
  obtain ⟨i, hi, h⟩ := Option.map_eq_some_iff.1 h
  simp only [Prod.mk.injEq] at h
  exact ⟨i, hi, h.1, h.2.1, h.2.2⟩
theorem zero_key (w : World) : (zeroValue 29).run Tryz.prog w = .ok (.agg (kc ⟨0, 0, 0⟩).toArray) w := by kernel_rfl
theorem kc_one (c : K) : ∀ u ∈ kc c, u.oneCell' = true := by
  intro u hu
  simp [kc] at hu
  rcases hu with rfl | rfl | rfl <;> rfl
theorem kc_all (c : K) : (kc c).toArray.all (·.oneCell') = true := by simp [kc, Value.oneCell']
theorem kc_info (c : K) : (Tryz.prog.info? 29).map (·.size) = some (kc c).toArray.size := by show _ = some 3; kernel_rfl
theorem kc_size (c d : K) : (kc c).toArray.size = (kc d).toArray.size := rfl
theorem kc_len (c : K) : (kc c).length = 3 := rfl
theorem kcs_len (l : List K) : (kcs l).length = l.length * 3 := by
  induction l with
  | nil => rfl
  | cons c l ih => simp only [kcs, List.flatMap_cons, List.length_append, kc_len, List.length_cons] at *; omega
theorem kc_cell (W : World) (c : K) (t : TypeId) : ∀ j u, (kc c)[j]? = some u → (W.alloc (.cells (kc c).toArray t)).cell? ((⟨W.heap.size, 0, none⟩ : Addr).add j) = some u := by
  intro j u hj
  have hR := (Row.new W (kc c).toArray t).cell j
  have e1 : (⟨W.heap.size, 0, none⟩ : Addr).add j = ⟨W.heap.size, j, none⟩ := by
    simp only [Addr.add, Nat.zero_add]
    split
    · next h => rw [h]
    · rfl
  rw [e1, hR]
  simpa using hj
set_option maxHeartbeats 400000 in
set_option maxRecDepth 100000 in
theorem sortedK_any (b n : Nat) (G : K → Option Int) (fv : Value) (w : World) (hn : n ≤ 1000) (R : World → Value → List K → Prop) (hM : MapIs w Tryz.prog 29 K.val wval b n G)
    (SF : ∀ (W : World) (B : Nat) (v : Value) (l : List K), B ≤ W.heap.size → l.length ≤ 1000 → (∀ c ∈ l, ∃ u, G c = some u) → W.ownsRow B 29 3 v l.length (kcs l) →
      Calls Tryz.prog 35 #[v, fv] W fun e w' => e = .returned (.tuple #[]) ∧ ∃ l', l'.Perm l ∧ R w' v l' ∧ Below B W w') :
    Calls Tryz.prog 26 #[.map (some b), fv] w fun e w' => ∃ v l', e = .returned v ∧ l'.Nodup ∧ (∀ c, c ∈ l' ↔ ∃ u, G c = some u) ∧ R w' v l' ∧ Below w.heap.size w w' := by
  obtain ⟨es, clock, hb, F, hs, H1, H2⟩ := hM
  have hbl : b < w.heap.size := by
    by_cases c : b < w.heap.size
    · exact c
    · rw [Array.getElem?_eq_none (by omega)] at hb; cases hb
  have hrg := run_range_map w 24 29 44 b es clock Tryz.underlying24 hb
  have hb1 : (w.alloc (.mapIter (some b) clock #[] clock)).heap[b]? = some (.map es clock) := by rw [heap_alloc_old _ _ hbl]; exact hb
  have hr1 : (w.alloc (.mapIter (some b) clock #[] clock)).heap[w.heap.size]? = some (.mapIter (some b) clock #[] clock) := heap_alloc_new w _
  have HF := Lib.hid F
  have HH := Lib.hid H1
  have H2H := Lib.hid H2
  have HSF := Lib.hid SF
  clear SF
  have HS := Lib.hid hs
  have HB := Lib.hid hb1
  have HR := Lib.hid hr1
  have HN := Lib.hid hn
  clear F H1 H2 hb hs hb1 hr1 hn
  go_enter Tryz.func26, Tryz.ntmps26
  go_wp2_with fail
  generalize hw1 : w.alloc (.mapIter (some b) clock #[] clock) = w1 at *
  have hB1 : Below w.heap.size w w1 := by rw [← hw1]; exact below_alloc (Below.refl _ _) _
  obtain ⟨r, hrr⟩ : ∃ r, r = w.heap.size := ⟨_, rfl⟩
  rw [← hrr] at HR ⊢
  have hrle : w.heap.size ≤ r := by omega
  have hbr : b ≠ r := by omega
  clear hw1 hrg hrr
  go_loopw [5] (fun v wr => ∃ (seen : Array Nat) (c0 : Nat) (l : List K), wr.heap[r]? = some (.mapIter (some b) clock seen c0) ∧ clock ≤ c0 ∧ wr.heap[b]? = some (.map es clock) ∧ CollK es seen l ∧ l.length + (leftOf es seen).size ≤ es.size ∧ wr.ownsRow (r + 1) 29 3 v l.length (kcs l) ∧ Below w.heap.size w wr) (fun _ wr => (leftOf es (wr.iterSeen r)).size)
  case atStart => exact ⟨#[], clock, [], HR.out, Nat.le_refl _, HB.out, CollK.start es, by simpa using left_len es #[], ⟨rfl, .inl ⟨rfl, rfl⟩⟩, hB1⟩
  case round =>
    obtain ⟨seen, c0, l, hr, hc0, hbm, hC, hlen, hown, BB⟩ := hrel
    rcases run_next_at (P := Tryz.prog) wr 0 r b clock c0 seen es clock hr hbm HF.out.stamped.1 hc0 with ⟨h0, hnext⟩ | ⟨x, hx, w2, hw2, hnext⟩
    · have hall := all_seen es seen h0
      have hmem : ∀ c, c ∈ l ↔ ∃ u, G c = some u := fun c => by
        rw [hC.2 c]
        constructor
        · rintro ⟨x, hx, hk, _⟩
          obtain ⟨d, u, h1, _, h3⟩ := HH.out x hx
          have := val_inj _ _ (hk.symm.trans h1)
          subst this
          exact ⟨u, h3⟩
        · rintro ⟨u, hu⟩
          obtain ⟨x, hx, hk, _⟩ := H2H.out c u hu
          exact ⟨x, hx, hk, hall x hx⟩
      have hl1 : l.length ≤ 1000 := by
        have a1 := HN.out
        have a2 := HS.out
        omega
      have hrl : r + 1 ≤ wr.heap.size := by
        by_cases c : r < wr.heap.size
        · omega
        · rw [Array.getElem?_eq_none (by omega)] at hr; cases hr
      have S := Lib.hid (HSF.out wr (r + 1) u5 l hrl hl1 (fun c hc => (hmem c).1 hc) hown)
      have HM := Lib.hid hmem
      have HD := Lib.hid hC.1
      have BBH := Lib.hid BB
      clear hall hmem hl1 hrl hown hC hlen hbm hr BB h0
      go_wp2_with fail
      refine S.out.mono ?_
      rintro _ w9 ⟨rfl, l', hp, hR, hb9⟩
      go_wp2
      go_ret
      refine ⟨_, l', rfl, (hp.nodup_iff).2 HD.out, fun c => (hp.mem_iff).trans (HM.out c), hR, ?_⟩
      exact BBH.out.trans (hb9.mono (by omega))
    · obtain ⟨hxe, hxs⟩ := mem_left hx
      obtain ⟨c, cv, hck, _, _⟩ := HH.out x hxe
      have hlt : r < wr.heap.size := by
        by_cases c : r < wr.heap.size
        · exact c
        · rw [Array.getElem?_eq_none (by omega)] at hr; cases hr
      have h2r : w2.heap = wr.heap := by rcases hw2 with rfl | rfl <;> rfl
      have h2b : Below w.heap.size w w2 := by rcases hw2 with rfl | rfl; exact BB; exact below_dr BB
      have h2o : w2.ownsRow (r + 1) 29 3 u5 l.length (kcs l) := by rcases hw2 with rfl | rfl <;> exact hown
      have hr3 : (setBlock w2 r (.mapIter (some b) clock (seen.push x.born) clock)).heap[r]? = some (.mapIter (some b) clock (seen.push x.born) clock) := by
        simp [setBlock, h2r, hlt]
      have hoth : ∀ i, i ≠ r → (setBlock w2 r (.mapIter (some b) clock (seen.push x.born) clock)).heap[i]? = wr.heap[i]? := fun i hi => by
        simp [setBlock, h2r, Array.getElem?_setIfInBounds, Ne.symm hi]
      have hb3 : (setBlock w2 r (.mapIter (some b) clock (seen.push x.born) clock)).heap[b]? = some (.map es clock) := (hoth b hbr).trans hbm
      have hB3 : Below w.heap.size w (setBlock w2 r (.mapIter (some b) clock (seen.push x.born) clock)) := ⟨h2b.os, h2b.tape, h2b.output, by simp [setBlock]; exact h2b.size, fun i hi => by rw [hoth i (by omega), ← h2r]; exact h2b.block i hi⟩
      have ho3 : (setBlock w2 r (.mapIter (some b) clock (seen.push x.born) clock)).ownsRow (r + 1) 29 3 u5 l.length (kcs l) := by
        refine ⟨hown.1, ?_⟩
        rcases hown.2 with h | ⟨g, cap, cur, e1, e2, e3, e4⟩
        · exact .inl h
        · exact .inr ⟨g, cap, cur, e1, e2, by rw [hoth g (by omega)]; exact e3, e4⟩
      have hent := run_entry_at (P := Tryz.prog) _ r b clock seen es clock x hr3 hb3 hxe HF.out.stamped.2.1
      generalize setBlock w2 r (.mapIter (some b) clock (seen.push x.born) clock) = w3 at *
      rw [hck, kval_kc] at hent
      have HC := Lib.hid (hC.step HF.out.stamped hx hck)
      have HIS := Lib.hid (show wr.iterSeen r = seen by unfold World.iterSeen; rw [hr])
      have hpl : (kc c).length = 3 := rfl
      have hR3 := Lib.hid hr3
      have hBM3 := Lib.hid hb3
      have hsh := left_shrinks es seen x hx
      clear hw2 h2r h2b h2o hoth hlt hck hC hown BB hr hbm
      obtain ⟨inf, hi, h1, h2, h3⟩ := info_key
      have h3b : r < w3.heap.size := by
        by_cases c : r < w3.heap.size
        · exact c
        · rw [Array.getElem?_eq_none (by omega)] at hr3; cases hr3
      have HN2 : l.length + 1 ≤ 1000 := by
        have a1 := HN.out
        have a2 := HS.out
        omega
      have HI := Lib.hid hi
      have HO := Lib.hid ho3
      clear hi ho3
      go_wp2_with (first
        | ((with_reducible refine ev_alloc (N := 6) ?_ ?_ 29 ?_ _ zero_key ?_); (rfl); (rfl); (rfl); intro gp w4 hgp RP B4)
        | ((with_reducible refine ev_store ?_ 29 (Operand.tmp 6) (Operand.tmp 12) ?_ gp (kc c).toArray ?_ ?_ RP (kc_info c) (kc_size ⟨0, 0, 0⟩ c) (kc_all c) ?_ ?_); (rfl); (rfl); (rfl); (rfl); (rfl); intro w5 RZ S5; have hB5 := S5.below B4 hgp; have ho5 := own_below HO.out hB5; have hr5 : r < w5.heap.size := Nat.lt_of_lt_of_le h3b hB5.size)
        | ((with_reducible refine ev_load (N := 14) ?_ ?_ 29 (Operand.tmp 6) ?_ gp ?_ RZ _ Tryz.underlying29 ?_ (kc_info c) ?_); (rfl); (rfl); (rfl); (rfl); (rfl))
        | (at_builtin; refine wpList_append_own_at _ rfl _ _ 34 rfl (r + 1) 29 inf (.agg (kc ⟨0, 0, 0⟩).toArray) 3 8 Tryz.underlying34 HI.out h1 h2 h3 rfl (by decide) u5 l.length (kcs l) rfl (own_alloc ho5 _) ⟨w5.heap.size, 0, none⟩ 1 1 (kc c) rfl rfl (kc_cell w5 c _) (kc_one c) (by unfold maxLen; omega) (by omega) (by simp; omega) ?_; intro v2 w6 hown6 hg6 hnil6 hat6))
      have hnr : ∀ i, i ≤ r → some i ≠ u5.ownBlock := fun i hi e => by
        have := own_ge HO.out e.symm
        omega
      have hh : ∀ i, i ≤ r → w6.heap[i]? = w3.heap[i]? := fun i hi => by
        rw [hg6.block i (by simp; omega) (hnr i hi), heap_alloc_old _ _ (by omega)]
        exact hB5.block i (by omega)
      refine ⟨⟨seen.push x.born, clock, l ++ [c], (hh r (by omega)).trans hR3.out, Nat.le_refl _, (hh b (by omega)).trans hBM3.out, HC.out, by simp; omega, ?_, ?_⟩, ?_⟩
      · have e1 : kcs (l ++ [c]) = kcs l ++ kc c := by simp [kcs]
        rw [e1, List.length_append]
        exact hown6
      · exact (below_alloc (below_then hB3 hB5) _).grown hg6 (Nat.le_trans (below_then hB3 hB5).size (by simp)) (fun k hk => by have := own_ge HO.out hk; omega)
      · have e2 : w6.iterSeen r = seen.push x.born := by
          unfold World.iterSeen
          rw [hh r (by omega), hR3.out]
        rw [e2, HIS.out]
        exact hsh
end Go.Proofs.YtahagfdjpldblaaGreatDoor

namespace Go.Proofs.YtahagfdjpldblaaGreatDoor
open Go.RowKit Ky
set_option linter.unusedVariables false
set_option linter.unusedSimpArgs false

def ssum (s : List (K × Int)) (c : K) : Int := ((s.filter fun x => decide (x.1 = c)).map (·.2)).sum
def sG (s : List (K × Int)) : K → Option Int := fun c => if c ∈ s.map (·.1) then some (ssum s c) else none
theorem sG_nil : (sG []) = fun _ => none := by
  funext c
  simp [sG]
theorem ssum_add (s : List (K × Int)) (x : K × Int) (c : K) : ssum (s ++ [x]) c = ssum s c + if x.1 = c then x.2 else 0 := by
  unfold ssum
  rw [List.filter_append, List.map_append, List.sum_append]
  by_cases h : x.1 = c
  · simp [h]
  · simp [h]
theorem ssum_none (s : List (K × Int)) (c : K) (h : c ∉ s.map (·.1)) : ssum s c = 0 := by
  unfold ssum
  have e : (s.filter fun x => decide (x.1 = c)) = [] := by
    rw [List.filter_eq_nil_iff]
    intro x hx
    simp only [decide_eq_true_eq]
    exact fun e => h (List.mem_map.2 ⟨x, hx, e⟩)
  rw [e]
  rfl
theorem sG_get (s : List (K × Int)) (c : K) : (sG s c).getD 0 = ssum s c := by
  unfold sG
  by_cases h : c ∈ s.map (·.1)
  · rw [if_pos h]; rfl
  · rw [if_neg h, ssum_none s c h]; rfl
theorem sG_step (s : List (K × Int)) (x : K × Int) : (fun d => if d = x.1 then some (ssum s x.1 + x.2) else sG s d) = sG (s ++ [x]) := by
  funext d
  unfold sG
  rw [ssum_add]
  by_cases h : d = x.1
  · subst h
    rw [if_pos rfl, if_pos rfl, if_pos (by simp)]
  · have h2 : ¬ x.1 = d := fun e => h e.symm
    rw [if_neg h, if_neg h2, Int.add_zero]
    by_cases c : d ∈ s.map (·.1)
    · rw [if_pos c, if_pos (by rw [List.map_append]; exact List.mem_append_left _ c)]
    · rw [if_neg c, if_neg (by rw [List.map_append, List.mem_append]; rintro (e | e); exact c e; simp at e; exact h e)]
theorem sG_some (s : List (K × Int)) (c : K) : (∃ u, sG s c = some u) ↔ c ∈ s.map (·.1) := by
  unfold sG
  by_cases h : c ∈ s.map (·.1)
  · rw [if_pos h]
    exact ⟨fun _ => h, fun _ => ⟨_, rfl⟩⟩
  · rw [if_neg h]
    exact ⟨fun ⟨u, hu⟩ => (by cases hu), fun hm => absurd hm h⟩
def sms (x : K × Int) : K × Int := (sm x.1, x.2)
/-- a list without twins that has just a map's keys is as long as the map -/
theorem perm_len {α : Type} [DecidableEq α] : ∀ (l m : List α), l.Nodup → m.Nodup → (∀ c, c ∈ l ↔ c ∈ m) → l.length = m.length := fun l m h1 h2 h =>
  Nat.le_antisymm (nodup_len l m h1 (fun c hc => (h c).1 hc)) (nodup_len m l h2 (fun c hc => (h c).2 hc))
theorem nodup_map {α β : Type} (f : α → β) (hf : ∀ c d, f c = f d → c = d) : ∀ (l : List α), l.Nodup → (l.map f).Nodup
  | [], _ => List.nodup_nil
  | x :: l, h => by
    rw [List.nodup_cons] at h
    rw [List.map_cons, List.nodup_cons]
    refine ⟨fun hm => ?_, nodup_map f hf l h.2⟩
    obtain ⟨y, hy, e⟩ := List.mem_map.1 hm
    exact h.1 (hf _ _ e ▸ hy)
theorem MapIs.count {κ ν : Type} [DecidableEq κ] {w : World} {P : Program} {k : TypeId} {enc : κ → Value} {vl : ν → Value} {b n : Nat} {G : κ → Option ν} (h : MapIs w P k enc vl b n G) (hinj : ∀ c d, enc c = enc d → c = d) (l : List κ) (hl : l.Nodup) (hm : ∀ c, c ∈ l ↔ ∃ u, G c = some u) :
    ∃ es clock, w.heap[b]? = some (.map es clock) ∧ es.size = l.length := by
  obtain ⟨es, clock, hb, F, _, H1, H2⟩ := h
  refine ⟨es, clock, hb, ?_⟩
  have hnd : (es.toList.map (·.key)).Nodup := F.stamped.2.2
  have e1 : (es.toList.map (·.key)).Perm (l.map enc) := by
    rw [List.perm_ext_iff_of_nodup hnd (nodup_map enc hinj l hl)]
    intro v
    constructor
    · intro hv
      obtain ⟨x, hx, rfl⟩ := List.mem_map.1 hv
      obtain ⟨c, u, hk, _, hg⟩ := H1 x hx
      exact List.mem_map.2 ⟨c, (hm c).2 ⟨u, hg⟩, hk.symm⟩
    · intro hv
      obtain ⟨c, hc, rfl⟩ := List.mem_map.1 hv
      obtain ⟨u, hu⟩ := (hm c).1 hc
      obtain ⟨x, hx, hk, _⟩ := H2 c u hu
      exact List.mem_map.2 ⟨x, hx, hk⟩
  have e2 := e1.length_eq
  simpa using e2
end Go.Proofs.YtahagfdjpldblaaGreatDoor

namespace Go.Proofs.YtahagfdjpldblaaGreatDoor
open Go.RowKit Ky Go.ChangeShapes Go.WideShapes
set_option linter.unusedVariables false
set_option linter.unusedSimpArgs false

def mc (x : K × Int) : List Value := [.int .u32 (x.1.a : Int), .int .u16 (x.1.e : Int), .int .u16 (x.1.p : Int), .int .i64 x.2]
def okm (x : K × Int) : Prop := x.1.ok ∧ Wd.I64 x.2
def mk0 : K × Int := (⟨0, 0, 0⟩, 0)
theorem mc_len (x : K × Int) : (mc x).length = 4 := rfl
section
variable {H : Type} {enc : TypeId × Value → H} {P : Program} {W : World} {base : Nat} {sp : Nat → Bool} {held : Bool}
theorem rd_more (n : Nat) (cs : List Value) (y : DataW H × List MemPlace) (h : DataW.trod enc Tryz.prog W base sp held n 31 cs = some y) : ∃ x : K × Int, okm x ∧ cs = mc x := by
  have c0 : Tryz.prog.cellsOf 31 = 4 := by kernel_rfl
  have c1 : Tryz.prog.cellsOf 29 = 3 := by kernel_rfl
  have c2 : Tryz.prog.cellsOf 2 = 1 := by kernel_rfl
  obtain ⟨xs, m, _, _, hl, hx, hf⟩ := DataW.trod_struct Tryz.underlying31 h
  rw [c0] at hl
  obtain ⟨x0, x1, x2, x3, rfl⟩ := list4 hl
  have g0 := hf 0 _ rfl
  have g1 := hf 1 _ rfl
  simp [c1, c2] at g0 g1
  obtain ⟨y0, y1, rfl⟩ := list2 hx
  simp at g0 g1
  obtain ⟨k, hk, e0⟩ := rd_key _ _ _ g0
  obtain ⟨z1, e1, _, b1⟩ := DataW.trod_int Tryz.underlying2 g1
  simp at e0 e1
  obtain ⟨rfl, rfl, rfl⟩ := e0
  subst e1
  have b1 := Go.bounds_i64 b1
  exact ⟨(k, z1), ⟨hk, b1⟩, rfl⟩
theorem open_mores {a : Option Addr} {len cap : Nat} {d0 : DataW H} {ps : List MemPlace} (h : DataW.Trod enc Tryz.prog W base sp held 22 (.slice a len cap) d0 ps) :
    ∃ l : List (K × Int), l.length = len ∧ (∀ x ∈ l, okm x) ∧ ElsAt mc 4 mk0 W a l ∧ len ≤ cap ∧ cap ≤ maxLen :=
  open_els mc 4 mk0 okm Tryz.underlying22 (by kernel_rfl) (by omega) mc_len rd_more h
end
end Go.Proofs.YtahagfdjpldblaaGreatDoor
