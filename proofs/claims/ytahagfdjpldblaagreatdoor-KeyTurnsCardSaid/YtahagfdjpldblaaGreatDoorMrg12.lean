/-
  Own texts, several in one (Sorted, Pairs, Pairs2).
-/
import Derived.Test.YtahagfdjpldblaaGreatDoorMrg11
import Derived.Test.YtahagfdjpldblaaGreatDoorMrg6
import Derived.Maps.AppendAt
import Derived.Shelf.SlSortCmp.WholeK
import Derived.Shelf.SlSortCmp.NoneTotal
namespace Go.Proofs.YtahagfdjpldblaaGreatDoor
open Go.RowKit Ky
open Go.Maps (Keyed)
open Go.ChangeMaps (setBlock)
open Go.WideElems (Fit)
set_option linter.unusedVariables false
set_option linter.unusedSimpArgs false

def pc (c : K × K) : List Value := [.int .u32 (c.1.a : Int), .int .u16 (c.1.e : Int), .int .u16 (c.1.p : Int), .int .u32 (c.2.a : Int), .int .u16 (c.2.e : Int), .int .u16 (c.2.p : Int)]
def pcs (l : List (K × K)) : List Value := l.flatMap pc
theorem pval_pc (c : K × K) : pval c = .agg (pc c).toArray := rfl
theorem key_inj {l : List MapEntry} (hn : (l.map (·.key)).Nodup) {x y : MapEntry} (hx : x ∈ l) (hy : y ∈ l) (h : x.key = y.key) : x = y := by
  induction l with
  | nil => cases hx
  | cons a l ih =>
    simp only [List.map_cons, List.nodup_cons] at hn
    rcases List.mem_cons.1 hx with e1 | hx <;> rcases List.mem_cons.1 hy with e2 | hy
    · rw [e1, e2]
    · exact absurd (List.mem_map.2 ⟨y, hy, by rw [← h, e1]⟩) hn.1
    · exact absurd (List.mem_map.2 ⟨x, hx, by rw [h, e2]⟩) hn.1
    · exact ih hn.2 hx hy
/-- what has been met so far of a map -/
def Coll (es : Array MapEntry) (seen : Array Nat) (l : List (K × K)) : Prop := l.Nodup ∧ ∀ c, c ∈ l ↔ ∃ x ∈ es.toList, x.key = pval c ∧ seen.contains x.born = true
theorem Coll.start (es : Array MapEntry) : Coll es #[] [] := ⟨List.nodup_nil, fun c => ⟨fun h => (by cases h), fun ⟨x, _, _, h⟩ => by simp at h⟩⟩
theorem Coll.step {es : Array MapEntry} {seen : Array Nat} {l : List (K × K)} (h : Coll es seen l) {clock : Nat} (hs : MapKept.Stamped es clock) {x : MapEntry} (hx : x ∈ (leftOf es seen).toList) {c : K × K} (hc : x.key = pval c) : Coll es (seen.push x.born) (l ++ [c]) := by
  obtain ⟨hxe, hxs⟩ := mem_left hx
  obtain ⟨s1, s2, s3⟩ := hs
  have hkey : ∀ y ∈ es.toList, y.key = x.key → y = x := by
    intro y hy hk
    exact key_inj s3 hy hxe hk
  have hnot : c ∉ l := fun h1 => by
    obtain ⟨y, hy, hk, hse⟩ := (h.2 c).1 h1
    have := hkey y hy (hk.trans hc.symm)
    subst this
    rw [hxs] at hse
    cases hse
  refine ⟨List.nodup_append.2 ⟨h.1, by simp, fun a ha d hd => ?_⟩, fun d => ?_⟩
  · simp at hd
    subst hd
    intro e
    subst e
    exact hnot ha
  · rw [List.mem_append, List.mem_singleton, h.2 d]
    constructor
    · rintro (⟨y, hy, hk, hse⟩ | rfl)
      · exact ⟨y, hy, hk, by rw [contains_push, hse]; rfl⟩
      · exact ⟨x, hxe, hc, by rw [contains_push]; simp⟩
    · rintro ⟨y, hy, hk, hse⟩
      rw [contains_push, Bool.or_eq_true] at hse
      rcases hse with hse | hse
      · exact .inl ⟨y, hy, hk, hse⟩
      · have hb : y.born = x.born := beq_iff_eq.1 hse
        have := born_inj s2 hy hxe hb
        subst this
        exact .inr (pval_inj _ _ (hk.symm.trans hc))
theorem info_pair : ∃ i, Tryz.prog.info? 49 = some i ∧ i.zero = some (.agg (pc (⟨0, 0, 0⟩, ⟨0, 0, 0⟩)).toArray) ∧ i.size = 6 ∧ i.bytes = 16 := by
  have h : (Tryz.prog.info? 49).map (fun i => (i.zero, i.size, i.bytes)) = some (some (.agg (pc (⟨0, 0, 0⟩, ⟨0, 0, 0⟩)).toArray), 6, 16) := by kernel_rfl
  obtain ⟨i, hi, h⟩ := Option.map_eq_some_iff.1 h
  simp only [Prod.mk.injEq] at h
  exact ⟨i, hi, h.1, h.2.1, h.2.2⟩
theorem zero_pair (w : World) : (zeroValue 49).run Tryz.prog w = .ok (.agg (pc (⟨0, 0, 0⟩, ⟨0, 0, 0⟩)).toArray) w := by kernel_rfl
theorem pc_one (c : K × K) : ∀ u ∈ pc c, u.oneCell' = true := by
  intro u hu
  simp [pc] at hu
  rcases hu with rfl | rfl | rfl | rfl | rfl | rfl <;> rfl
theorem pc_all (c : K × K) : (pc c).toArray.all (·.oneCell') = true := by simp [pc, Value.oneCell']
theorem pc_info (c : K × K) : (Tryz.prog.info? 49).map (·.size) = some (pc c).toArray.size := by show _ = some 6; kernel_rfl
theorem pc_size (c d : K × K) : (pc c).toArray.size = (pc d).toArray.size := rfl
theorem pc_len (c : K × K) : (pc c).length = 6 := rfl
theorem pcs_len (l : List (K × K)) : (pcs l).length = l.length * 6 := by
  induction l with
  | nil => rfl
  | cons c l ih => simp only [pcs, List.flatMap_cons, List.length_append, pc_len, List.length_cons] at *; omega
theorem own_below {w w' : World} {B n size : Nat} {e : TypeId} {v : Value} {xs : List Value} (h : w.ownsRow B e size v n xs) (hb : Below w.heap.size w w') : w'.ownsRow B e size v n xs := by
  refine ⟨h.1, ?_⟩
  rcases h.2 with h2 | ⟨g, cap, cur, e1, e2, e3, e4⟩
  · exact .inl h2
  · have hlt : g < w.heap.size := by
      by_cases c : g < w.heap.size
      · exact c
      · rw [Array.getElem?_eq_none (by omega)] at e3; cases e3
    exact .inr ⟨g, cap, cur, e1, e2, (hb.block g hlt).trans e3, e4⟩
theorem own_ge {w : World} {B n size g : Nat} {e : TypeId} {v : Value} {xs : List Value} (h : w.ownsRow B e size v n xs) (hg : v.ownBlock = some g) : B ≤ g := by
  rcases h.2 with ⟨rfl, _⟩ | ⟨g', cap, cur, rfl, e2, _⟩
  · simp [Value.ownBlock] at hg
  · simp [Value.ownBlock] at hg
    omega
theorem pc_cell (W : World) (c : K × K) (t : TypeId) : ∀ j u, (pc c)[j]? = some u → (W.alloc (.cells (pc c).toArray t)).cell? ((⟨W.heap.size, 0, none⟩ : Addr).add j) = some u := by
  intro j u hj
  have hR := (Row.new W (pc c).toArray t).cell j
  have e1 : (⟨W.heap.size, 0, none⟩ : Addr).add j = ⟨W.heap.size, j, none⟩ := by
    simp only [Addr.add, Nat.zero_add]
    split
    · next h => rw [h]
    · rfl
  rw [e1, hR]
  simpa using hj
theorem left_len (es : Array MapEntry) (seen : Array Nat) : (leftOf es seen).size ≤ es.size := by
  unfold leftOf
  exact Array.size_filter_le ..

set_option maxHeartbeats 400000 in
set_option maxRecDepth 100000 in
theorem sortedL_any (b n : Nat) (G : K × K → Option Nat) (fv : Value) (w : World) (hn : n ≤ 1000) (R : World → Value → List (K × K) → Prop) (hM : MapIs w Tryz.prog 49 pval lval b n G)
    (SF : ∀ (W : World) (B : Nat) (v : Value) (l : List (K × K)), B ≤ W.heap.size → l.length ≤ 1000 → (∀ c ∈ l, ∃ u, G c = some u) → W.ownsRow B 49 6 v l.length (pcs l) →
      Calls Tryz.prog 37 #[v, fv] W fun e w' => e = .returned (.tuple #[]) ∧ ∃ l', l'.Perm l ∧ R w' v l' ∧ Below B W w') :
    Calls Tryz.prog 29 #[.map (some b), fv] w fun e w' => ∃ v l', e = .returned v ∧ l'.Nodup ∧ (∀ c, c ∈ l' ↔ ∃ u, G c = some u) ∧ R w' v l' ∧ Below w.heap.size w w' := by
  obtain ⟨es, clock, hb, F, hs, H1, H2⟩ := hM
  have hbl : b < w.heap.size := by
    by_cases c : b < w.heap.size
    · exact c
    · rw [Array.getElem?_eq_none (by omega)] at hb; cases hb
  have hrg := run_range_map w 50 49 3 b es clock Tryz.underlying50 hb
  have hb1 : (w.alloc (.mapIter (some b) clock #[] clock)).heap[b]? = some (.map es clock) := by rw [heap_alloc_old _ _ hbl]; exact hb
  have hr1 : (w.alloc (.mapIter (some b) clock #[] clock)).heap[w.heap.size]? = some (.mapIter (some b) clock #[] clock) := heap_alloc_new w _
  have HF := Lib.hid F
  have HH := Lib.hid H1
  have H2H := Lib.hid H2
  have HSF := Lib.hid SF
  clear SF
  have HS := Lib.hid hs
  have HB := Lib.hid hb1
  have HR := Lib.hid hr1
  have HN := Lib.hid hn
  clear F H1 H2 hb hs hb1 hr1 hn
  go_enter Tryz.func29, Tryz.ntmps29
  go_wp2_with fail
  generalize hw1 : w.alloc (.mapIter (some b) clock #[] clock) = w1 at *
  have hB1 : Below w.heap.size w w1 := by rw [← hw1]; exact below_alloc (Below.refl _ _) _
  obtain ⟨r, hrr⟩ : ∃ r, r = w.heap.size := ⟨_, rfl⟩
  rw [← hrr] at HR ⊢
  have hrle : w.heap.size ≤ r := by omega
  have hbr : b ≠ r := by omega
  clear hw1 hrg hrr
  go_loopw [5] (fun v wr => ∃ (seen : Array Nat) (c0 : Nat) (l : List (K × K)), wr.heap[r]? = some (.mapIter (some b) clock seen c0) ∧ clock ≤ c0 ∧ wr.heap[b]? = some (.map es clock) ∧ Coll es seen l ∧ l.length + (leftOf es seen).size ≤ es.size ∧ wr.ownsRow (r + 1) 49 6 v l.length (pcs l) ∧ Below w.heap.size w wr) (fun _ wr => (leftOf es (wr.iterSeen r)).size)
  case atStart => exact ⟨#[], clock, [], HR.out, Nat.le_refl _, HB.out, Coll.start es, by simpa using left_len es #[], ⟨rfl, .inl ⟨rfl, rfl⟩⟩, hB1⟩
  case round =>
    obtain ⟨seen, c0, l, hr, hc0, hbm, hC, hlen, hown, BB⟩ := hrel
    rcases run_next_at (P := Tryz.prog) wr 0 r b clock c0 seen es clock hr hbm HF.out.stamped.1 hc0 with ⟨h0, hnext⟩ | ⟨x, hx, w2, hw2, hnext⟩
    · have hall := all_seen es seen h0
      have hmem : ∀ c, c ∈ l ↔ ∃ u, G c = some u := fun c => by
        rw [hC.2 c]
        constructor
        · rintro ⟨x, hx, hk, _⟩
          obtain ⟨d, u, h1, _, h3⟩ := HH.out x hx
          have := pval_inj _ _ (hk.symm.trans h1)
          subst this
          exact ⟨u, h3⟩
        · rintro ⟨u, hu⟩
          obtain ⟨x, hx, hk, _⟩ := H2H.out c u hu
          exact ⟨x, hx, hk, hall x hx⟩
      have hl1 : l.length ≤ 1000 := by
        have a1 := HN.out
        have a2 := HS.out
        omega
      have hrl : r + 1 ≤ wr.heap.size := by
        by_cases c : r < wr.heap.size
        · omega
        · rw [Array.getElem?_eq_none (by omega)] at hr; cases hr
      have S := Lib.hid (HSF.out wr (r + 1) u5 l hrl hl1 (fun c hc => (hmem c).1 hc) hown)
      have HM := Lib.hid hmem
      have HD := Lib.hid hC.1
      have BBH := Lib.hid BB
      clear hall hmem hl1 hrl hown hC hlen hbm hr BB h0
      go_wp2_with fail
      refine S.out.mono ?_
      rintro _ w9 ⟨rfl, l', hp, hR, hb9⟩
      go_wp2
      go_ret
      refine ⟨_, l', rfl, (hp.nodup_iff).2 HD.out, fun c => (hp.mem_iff).trans (HM.out c), hR, ?_⟩
      exact BBH.out.trans (hb9.mono (by omega))
    · obtain ⟨hxe, hxs⟩ := mem_left hx
      obtain ⟨c, cv, hck, _, _⟩ := HH.out x hxe
      have hlt : r < wr.heap.size := by
        by_cases c : r < wr.heap.size
        · exact c
        · rw [Array.getElem?_eq_none (by omega)] at hr; cases hr
      have h2r : w2.heap = wr.heap := by rcases hw2 with rfl | rfl <;> rfl
      have h2b : Below w.heap.size w w2 := by rcases hw2 with rfl | rfl; exact BB; exact below_dr BB
      have h2o : w2.ownsRow (r + 1) 49 6 u5 l.length (pcs l) := by rcases hw2 with rfl | rfl <;> exact hown
      have hr3 : (setBlock w2 r (.mapIter (some b) clock (seen.push x.born) clock)).heap[r]? = some (.mapIter (some b) clock (seen.push x.born) clock) := by
        simp [setBlock, h2r, hlt]
      have hoth : ∀ i, i ≠ r → (setBlock w2 r (.mapIter (some b) clock (seen.push x.born) clock)).heap[i]? = wr.heap[i]? := fun i hi => by
        simp [setBlock, h2r, Array.getElem?_setIfInBounds, Ne.symm hi]
      have hb3 : (setBlock w2 r (.mapIter (some b) clock (seen.push x.born) clock)).heap[b]? = some (.map es clock) := (hoth b hbr).trans hbm
      have hB3 : Below w.heap.size w (setBlock w2 r (.mapIter (some b) clock (seen.push x.born) clock)) := ⟨h2b.os, h2b.tape, h2b.output, by simp [setBlock]; exact h2b.size, fun i hi => by rw [hoth i (by omega), ← h2r]; exact h2b.block i hi⟩
      have ho3 : (setBlock w2 r (.mapIter (some b) clock (seen.push x.born) clock)).ownsRow (r + 1) 49 6 u5 l.length (pcs l) := by
        refine ⟨hown.1, ?_⟩
        rcases hown.2 with h | ⟨g, cap, cur, e1, e2, e3, e4⟩
        · exact .inl h
        · exact .inr ⟨g, cap, cur, e1, e2, by rw [hoth g (by omega)]; exact e3, e4⟩
      have hent := run_entry_at (P := Tryz.prog) _ r b clock seen es clock x hr3 hb3 hxe HF.out.stamped.2.1
      generalize setBlock w2 r (.mapIter (some b) clock (seen.push x.born) clock) = w3 at *
      rw [hck, pval_pc] at hent
      have HC := Lib.hid (hC.step HF.out.stamped hx hck)
      have HIS := Lib.hid (show wr.iterSeen r = seen by unfold World.iterSeen; rw [hr])
      have hpl : (pc c).length = 6 := rfl
      have hR3 := Lib.hid hr3
      have hBM3 := Lib.hid hb3
      have hsh := left_shrinks es seen x hx
      clear hw2 h2r h2b h2o hoth hlt hck hC hown BB hr hbm
      obtain ⟨inf, hi, h1, h2, h3⟩ := info_pair
      have h3b : r < w3.heap.size := by
        by_cases c : r < w3.heap.size
        · exact c
        · rw [Array.getElem?_eq_none (by omega)] at hr3; cases hr3
      have HN2 : l.length + 1 ≤ 1000 := by
        have a1 := HN.out
        have a2 := HS.out
        omega
      have HI := Lib.hid hi
      have HO := Lib.hid ho3
      clear hi ho3
      go_wp2_with (first
        | ((with_reducible refine ev_alloc (N := 6) ?_ ?_ 49 ?_ _ zero_pair ?_); (rfl); (rfl); (rfl); intro gp w4 hgp RP B4)
        | ((with_reducible refine ev_store ?_ 49 (Operand.tmp 6) (Operand.tmp 12) ?_ gp (pc c).toArray ?_ ?_ RP (pc_info c) (pc_size (⟨0, 0, 0⟩, ⟨0, 0, 0⟩) c) (pc_all c) ?_ ?_); (rfl); (rfl); (rfl); (rfl); (rfl); intro w5 RZ S5; have hB5 := S5.below B4 hgp; have ho5 := own_below HO.out hB5; have hr5 : r < w5.heap.size := Nat.lt_of_lt_of_le h3b hB5.size)
        | ((with_reducible refine ev_load (N := 14) ?_ ?_ 49 (Operand.tmp 6) ?_ gp ?_ RZ _ Tryz.underlying49 ?_ (pc_info c) ?_); (rfl); (rfl); (rfl); (rfl); (rfl))
        | (at_builtin; refine wpList_append_own_at _ rfl _ _ 48 rfl (r + 1) 49 inf (.agg (pc (⟨0, 0, 0⟩, ⟨0, 0, 0⟩)).toArray) 6 16 Tryz.underlying48 HI.out h1 h2 h3 rfl (by decide) u5 l.length (pcs l) rfl (own_alloc ho5 _) ⟨w5.heap.size, 0, none⟩ 1 1 (pc c) rfl rfl (pc_cell w5 c _) (pc_one c) (by unfold maxLen; omega) (by omega) (by simp; omega) ?_; intro v2 w6 hown6 hg6 hnil6 hat6))
      have hnr : ∀ i, i ≤ r → some i ≠ u5.ownBlock := fun i hi e => by
        have := own_ge HO.out e.symm
        omega
      have hh : ∀ i, i ≤ r → w6.heap[i]? = w3.heap[i]? := fun i hi => by
        rw [hg6.block i (by simp; omega) (hnr i hi), heap_alloc_old _ _ (by omega)]
        exact hB5.block i (by omega)
      refine ⟨⟨seen.push x.born, clock, l ++ [c], (hh r (by omega)).trans hR3.out, Nat.le_refl _, (hh b (by omega)).trans hBM3.out, HC.out, by simp; omega, ?_, ?_⟩, ?_⟩
      · have e1 : pcs (l ++ [c]) = pcs l ++ pc c := by simp [pcs]
        rw [e1, List.length_append]
        exact hown6
      · exact (below_alloc (below_then hB3 hB5) _).grown hg6 (Nat.le_trans (below_then hB3 hB5).size (by simp)) (fun k hk => by have := own_ge HO.out hk; omega)
      · have e2 : w6.iterSeen r = seen.push x.born := by
          unfold World.iterSeen
          rw [hh r (by omega), hR3.out]
        rw [e2, HIS.out]
        exact hsh
end Go.Proofs.YtahagfdjpldblaaGreatDoor

namespace Go.Proofs.YtahagfdjpldblaaGreatDoor
open Go.RowKit Ky Go.Lib Go.Sort
set_option linter.unusedVariables false
set_option linter.unusedSimpArgs false

def pcmp (c d : K × K) : Int := if Ky.cmp c.1.num d.1.num = 0 then Ky.cmp c.2.num d.2.num else Ky.cmp c.1.num d.1.num
def okp (c : K × K) : Prop := c.1.ok ∧ c.2.ok
set_option maxHeartbeats 1000000 in
set_option maxRecDepth 100000 in
theorem pairs_cmp (c d : K × K) (hc : okp c) (hd : okp d) (w : World) : Calls Tryz.prog 30 #[.agg (pc c).toArray, .agg (pc d).toArray] w fun e w' => e = .returned (.int .i64 (pcmp c d)) ∧ Gr w w' := by
  have C1 := Lib.hid (compare_gr c.1 d.1 hc.1 hd.1)
  have C2 := Lib.hid (compare_gr c.2 d.2 hc.2 hd.2)
  have HG := Lib.hid (Gr.alloc (Gr.alloc (Gr.refl w) (.cells (pc c).toArray 49)) (.cells (pc d).toArray 49))
  have RA := (Row.new w (pc c).toArray 49).alloc (.cells (pc d).toArray 49)
  have RB := Row.new' (w.alloc (.cells (pc c).toArray 49)) (pc d).toArray 49 (g := w.heap.size + 1) (by simp)
  unfold K.val at C1 C2
  unfold pcmp
  generalize Ky.cmp c.1.num d.1.num = n1 at *
  generalize Ky.cmp c.2.num d.2.num = n2 at *
  unfold pc at *
  clear hc hd
  by_cases h : n1 = 0
  · have q : (n1 != 0) = false := by rw [h]; rfl
    rw [if_pos h]
    clear h
    go_enter Tryz.func30, Tryz.ntmps30
    go_wp2_with fail
    refine (C1.out _).mono ?_
    rintro _ w2 ⟨rfl, hg2⟩
    have RA2 := RA.below hg2.below
    have RB2 := RB.below hg2.below
    have HG2 := Lib.hid (HG.out.trans hg2)
    have a3 : w2.cell? ⟨w.heap.size, 3, none⟩ = some (.int .u32 (c.2.a : Int)) := RA2.cell 3
    have a4 : w2.cell? ⟨w.heap.size, 4, none⟩ = some (.int .u16 (c.2.e : Int)) := RA2.cell 4
    have a5 : w2.cell? ⟨w.heap.size, 5, none⟩ = some (.int .u16 (c.2.p : Int)) := RA2.cell 5
    have b3 : w2.cell? ⟨w.heap.size + 1, 3, none⟩ = some (.int .u32 (d.2.a : Int)) := RB2.cell 3
    have b4 : w2.cell? ⟨w.heap.size + 1, 4, none⟩ = some (.int .u16 (d.2.e : Int)) := RB2.cell 4
    have b5 : w2.cell? ⟨w.heap.size + 1, 5, none⟩ = some (.int .u16 (d.2.p : Int)) := RB2.cell 5
    clear RA RB RA2 RB2 hg2 C1
    go_wp2_with fail
    refine (C2.out _).mono ?_
    rintro _ w3 ⟨rfl, hg3⟩
    go_wp2
    go_ret
    exact ⟨rfl, HG2.out.trans hg3⟩
  · have q : (n1 != 0) = true := by rw [bne_iff_ne]; exact h
    rw [if_neg h]
    clear h
    go_enter Tryz.func30, Tryz.ntmps30
    go_wp2_with fail
    refine (C1.out _).mono ?_
    rintro _ w2 ⟨rfl, hg2⟩
    go_wp2
    go_ret
    exact ⟨rfl, HG.out.trans hg2⟩
theorem cmp_lt (x y : Nat) : Ky.cmp x y < 0 ↔ x < y := by
  unfold Ky.cmp
  split
  · omega
  · split <;> omega
theorem cmp_zero (x y : Nat) : Ky.cmp x y = 0 ↔ x = y := by
  unfold Ky.cmp
  split
  · omega
  · split <;> omega
/-- pairs' order -/
theorem pcmp_lt (c d : K × K) : pcmp c d < 0 ↔ (c.1.num < d.1.num ∨ c.1.num = d.1.num ∧ c.2.num < d.2.num) := by
  unfold pcmp
  split
  · next h => rw [cmp_zero] at h; rw [cmp_lt]; omega
  · next h => rw [cmp_zero] at h; rw [cmp_lt]; omega
theorem pcmp_swo : SWO (ltOf fun c d : { c : K × K // okp c } => pcmp c.1 d.1) where
  irrefl x := by unfold ltOf; rw [decide_eq_false_iff_not, pcmp_lt]; omega
  trans x y z h1 h2 := by unfold ltOf at *; rw [decide_eq_true_eq, pcmp_lt] at *; omega
  ntrans x y z h1 h2 := by unfold ltOf at *; rw [decide_eq_false_iff_not, pcmp_lt] at *; omega
end Go.Proofs.YtahagfdjpldblaaGreatDoor

namespace Go.Proofs.YtahagfdjpldblaaGreatDoor
open Go.RowKit Ky Go.Lib Go.Sort
set_option linter.unusedVariables false
set_option linter.unusedSimpArgs false

abbrev PK := { c : K × K // okp c }
def pk0 : PK := ⟨(⟨0, 0, 0⟩, ⟨0, 0, 0⟩), by unfold okp K.ok; decide⟩
instance : Inhabited PK := ⟨pk0⟩
def epk (x : PK) : List Value := pc x.1
/-- these pairs lie in a slice -/
def PairsAt (w : World) (v : Value) (l : List (K × K)) : Prop := ∃ p cap, v = .slice p l.length cap ∧ (l = [] ∨ ∃ g, p = some ⟨g, 0, none⟩ ∧ ∀ t u, (pcs l)[t]? = some u → w.cell? ⟨g, t, none⟩ = some u)
theorem pcs_get (l : List (K × K)) : ∀ (t : Nat), t < l.length * 6 → (pcs l)[t]? = (pc (l.getD (t / 6) pk0.1))[t % 6]? := by
  induction l with
  | nil => intro t h; simp at h
  | cons c l ih =>
    intro t h
    have e : pcs (c :: l) = pc c ++ pcs l := rfl
    rw [e]
    by_cases ht : t < 6
    · rw [List.getElem?_append_left (by rw [pc_len]; exact ht), show t / 6 = 0 by omega, show t % 6 = t by omega]
      rfl
    · rw [List.getElem?_append_right (by rw [pc_len]; omega), pc_len, ih (t - 6) (by simp at h; omega), show (t - 6) / 6 = t / 6 - 1 by omega, show (t - 6) % 6 = t % 6 by omega]
      obtain ⟨q, hq⟩ : ∃ q, t / 6 = q + 1 := ⟨t / 6 - 1, by omega⟩
      rw [hq]
      rfl
theorem flat_get (d : Array PK) (t : Nat) (h : t < d.size * 6) : (pcs (d.toList.map (·.1)))[t]? = some (flatK epk 6 d)[t]! := by
  rw [get_flatK epk 6 d t h, pcs_get _ t (by simpa using h)]
  have h1 : t / 6 < d.size := by omega
  have e1 : (d.toList.map (·.1)).getD (t / 6) pk0.1 = (d[t / 6]!).1 := by
    rw [List.getD_eq_getElem?_getD, List.getElem?_map, Array.getElem?_toList, Array.getElem?_eq_getElem h1, getElem!_pos d (t / 6) h1]
    rfl
  rw [e1]
  unfold epk
  have h2 : t % 6 < (pc (d[t / 6]!).1).length := by rw [pc_len]; omega
  rw [List.getElem?_eq_getElem h2, getElem!_pos (pc (d[t / 6]!).1) (t % 6) h2]
theorem cmpLays (blk off size : Nat) (w : World) : CmpLays Tryz.prog 30 #[] epk 6 (fun c d : PK => pcmp c.1 d.1) blk off size w :=
  fun _ _ _ _ x y => pairs_cmp x.1 y.1 x.2 y.2 _
set_option maxHeartbeats 1000000 in
theorem sort_pairs (W : World) (B : Nat) (v : Value) (l : List (K × K)) (hB : B ≤ W.heap.size) (hl : l.length ≤ 1000) (hok : ∀ c ∈ l, okp c) (hown : W.ownsRow B 49 6 v l.length (pcs l)) :
    Calls Tryz.prog 37 #[v, .func (.func 30) #[] #[]] W fun e w' => e = .returned (.tuple #[]) ∧ ∃ l', l'.Perm l ∧ ((∀ i j, i < j → j < l'.length → ¬ pcmp (l'.getD j pk0.1) (l'.getD i pk0.1) < 0) ∧ PairsAt w' v l') ∧ Below B W w' := by
  rcases hown.2 with ⟨rfl, h0⟩ | ⟨g, cap, cur, rfl, hg, hh, hc, hm, hs, ht⟩
  · have hl0 : l = [] := List.length_eq_zero_iff.1 h0
    subst hl0
    refine (AnyF.slices_SortFunc_none { Tryz.laysSlF06_f37 with } none 0 _ W).mono ?_
    rintro e w' ⟨rfl, rfl⟩
    exact ⟨rfl, [], List.Perm.refl _, ⟨fun i j _ h => by simp at h, none, 0, rfl, .inl rfl⟩, ⟨rfl, rfl, rfl, Nat.le_refl _, fun _ _ => rfl⟩⟩
  · obtain ⟨d, hd⟩ : ∃ d : Array PK, d.toList.map (·.1) = l := ⟨(l.attach.map fun x => (⟨x.1, hok x.1 x.2⟩ : PK)).toArray, by
      rw [List.toList_toArray, List.map_map]
      exact List.attach_map_subtype_val l⟩
    have hsz : d.size = l.length := by rw [← hd]; simp
    have hcell : ∀ t u, (pcs l)[t]? = some u → W.cell? ⟨g, t, none⟩ = some u ∧ W.frozen? ⟨g, t, none⟩ = false := fun t u hu => by
      have hlt : t < l.length * 6 := by
        by_cases c : t < l.length * 6
        · exact c
        · rw [List.getElem?_eq_none (by rw [pcs_len]; omega)] at hu; cases hu
      refine ⟨?_, frozen_of_row W g t cur _ hh⟩
      rw [cell_of_row W g t cur _ _ hh]
      rw [← ht, List.getElem?_take, if_pos hlt] at hu
      simpa using hu
    have hH : HoldsK epk 6 W g 0 d := fun j hj => by
      rw [size_flatK] at hj
      rw [Nat.zero_add]
      have := flat_get d j hj
      rw [hd] at this
      exact hcell j _ this
    have hgl : g < W.heap.size := by
      by_cases c : g < W.heap.size
      · exact c
      · rw [Array.getElem?_eq_none (by omega)] at hh; cases hh
    have eg : ∀ args w, (callFunc 30 args).run Tryz.prog w = .ok (.enter 30 args) w := enters_of Tryz.func30 (by kernel_rfl) rfl
    have hcon := AnyQ.slices_SortFunc Tryz.laysSlF06_f37 6 Tryz.isAgg49 Tryz.sizeOf49 epk (fun _ => rfl) (fun x v hv => pc_one x.1 v hv) (fun c d : PK => pcmp c.1 d.1) pcmp_swo 30 #[] g 0 cap d W eg (cmpLays g 0 d.size W) hH hgl (by omega)
    rw [hsz] at hcon
    refine hcon.mono ?_
    rintro e w' ⟨rfl, d', n, os, hp, hsd, rfl⟩
    obtain ⟨hp1, _, hp3⟩ := hp
    have hz : d'.size = l.length := by rw [hp1, hsz]
    have hperm : (d'.toList.map (·.1)).Perm l := by
      have h1 : d'.extract 0 l.length = d' := by rw [← hz]; exact Array.extract_size
      have h2 : d.extract 0 l.length = d := by rw [← hsz]; exact Array.extract_size
      rw [h1, h2] at hp3
      rw [← hd]
      exact hp3.map _
    have hget : ∀ j, j < l.length → (d'.toList.map (·.1)).getD j pk0.1 = (d'[j]!).1 := fun j hj => by
      rw [List.getD_eq_getElem?_getD, List.getElem?_map, Array.getElem?_toList, Array.getElem?_eq_getElem (by omega), getElem!_pos d' j (by omega)]
      rfl
    have hlen : (d'.toList.map (·.1)).length = l.length := by simp [hz]
    refine ⟨rfl, _, hperm, ⟨fun i j hij hj => ?_, some ⟨g, 0, none⟩, cap, by rw [hlen], .inr ⟨g, rfl, fun t u hu => ?_⟩⟩, ?_⟩
    · rw [hlen] at hj
      have h := hsd i j (Nat.zero_le _) hij hj
      unfold ltOf at h
      rw [decide_eq_false_iff_not] at h
      rw [hget j hj, hget i (by omega)]
      exact h
    · have hlt : t < d'.size * 6 := by
        by_cases c : t < d'.size * 6
        · exact c
        · rw [List.getElem?_eq_none (by rw [pcs_len]; simp; omega)] at hu; cases hu
      have h3 := flat_get d' t hlt
      rw [hu] at h3
      unfold sortWorldK
      rw [cell?_grow _ _ _ (by unfold putRowK; rw [size_putRow]; exact hgl)]
      have h4 := cell?_putRow id (Sort.ahead W n) g 0 (flatK epk 6 d) (flatK epk 6 d') (holds_ahead _ _ _ _ _ _ hH) (by rw [size_flatK, size_flatK, hp1]) t (by rw [size_flatK]; exact hlt)
      rw [Nat.zero_add] at h4
      exact h4.trans h3.symm
    · refine ⟨rfl, rfl, rfl, ?_, fun k hk => ?_⟩
      · unfold sortWorldK putRowK
        simp [grow, putRow, mapBlock, Sort.ahead]
      · unfold sortWorldK putRowK
        rw [Go.Sort.heap_grow_old _ _ (by rw [size_putRow]; show k < W.heap.size; omega)]
        show (W.heap.modify g _)[k]? = _
        rw [Array.getElem?_modify, if_neg (by omega)]
/-- these pairs rise -/
def Rise (l : List (K × K)) : Prop := ∀ i j, i < j → j < l.length → ¬ pcmp (l.getD j pk0.1) (l.getD i pk0.1) < 0
theorem pairs_any (b n : Nat) (G : K × K → Option Nat) (w : World) (hn : n ≤ 1000) (hG : ∀ c u, G c = some u → okp c) (hM : MapIs w Tryz.prog 49 pval lval b n G) :
    Calls Tryz.prog 16 #[.map (some b)] w fun e w' => ∃ v l, e = .returned v ∧ l.Nodup ∧ (∀ c, c ∈ l ↔ ∃ u, G c = some u) ∧ Rise l ∧ PairsAt w' v l ∧ Below w.heap.size w w' := by
  have S := Lib.hid (sortedL_any b n G (.func (.func 30) #[] #[]) w hn (fun w' v l => Rise l ∧ PairsAt w' v l) hM (fun W B v l hB hl hmem hown => sort_pairs W B v l hB hl (fun c hc => by obtain ⟨u, hu⟩ := hmem c hc; exact hG c u hu) hown))
  clear hM hG
  go_enter Tryz.func16, Tryz.ntmps16
  go_wp2_with fail
  refine S.out.mono ?_
  rintro _ w1 ⟨v, l, rfl, h1, h2, ⟨h3, h4⟩, h5⟩
  go_wp2
  go_ret
  exact ⟨v, l, rfl, h1, h2, h3, h4, h5⟩
end Go.Proofs.YtahagfdjpldblaaGreatDoor
