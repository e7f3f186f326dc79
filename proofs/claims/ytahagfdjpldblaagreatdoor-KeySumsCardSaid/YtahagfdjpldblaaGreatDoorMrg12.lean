/-
  Own texts, several in one (SortedK, CmpG, Pairs).
-/
import Derived.Test.YtahagfdjpldblaaGreatDoorMrg11
import Derived.Lib.Walk
import Derived.Shelf.SlSortCmp.WholeK
namespace Go.Proofs.YtahagfdjpldblaaGreatDoor
open Go.RowKit Ky
open Go.Maps (Keyed)
open Go.ChangeMaps (setBlock)
open Go.WideElems (Fit)
set_option linter.unusedVariables false
set_option linter.unusedSimpArgs false

def kc (c : K) : List Value := [.int .u32 (c.a : Int), .int .u16 (c.e : Int), .int .u16 (c.p : Int)]
def kcs (l : List K) : List Value := l.flatMap kc
theorem kval_kc (c : K) : c.val = .agg (kc c).toArray := rfl
def wval (n : Int) : Value := .agg #[.int .i64 (Wd.hi n), .int .u64 (Wd.lo n)]
/-- what has been met so far of a map -/
def CollK (es : Array MapEntry) (seen : Array Nat) (l : List K) : Prop := l.Nodup ∧ ∀ c, c ∈ l ↔ ∃ x ∈ es.toList, x.key = K.val c ∧ seen.contains x.born = true
theorem CollK.start (es : Array MapEntry) : CollK es #[] [] := ⟨List.nodup_nil, fun c => ⟨fun h => (by cases h), fun ⟨x, _, _, h⟩ => by simp at h⟩⟩
theorem CollK.step {es : Array MapEntry} {seen : Array Nat} {l : List K} (h : CollK es seen l) {clock : Nat} (hs : MapKept.Stamped es clock) {x : MapEntry} (hx : x ∈ (leftOf es seen).toList) {c : K} (hc : x.key = K.val c) : CollK es (seen.push x.born) (l ++ [c]) := by
  obtain ⟨hxe, hxs⟩ := mem_left hx
  obtain ⟨s1, s2, s3⟩ := hs
  have hkey : ∀ y ∈ es.toList, y.key = x.key → y = x := by
    intro y hy hk
    exact key_inj s3 hy hxe hk
  have hnot : c ∉ l := fun h1 => by
    obtain ⟨y, hy, hk, hse⟩ := (h.2 c).1 h1
    have := hkey y hy (hk.trans hc.symm)
    subst this
    rw [hxs] at hse
    cases hse
  refine ⟨List.nodup_append.2 ⟨h.1, by simp, fun a ha d hd => ?_⟩, fun d => ?_⟩
  · simp at hd
    subst hd
    intro e
    subst e
    exact hnot ha
  · rw [List.mem_append, List.mem_singleton, h.2 d]
    constructor
    · rintro (⟨y, hy, hk, hse⟩ | rfl)
      · exact ⟨y, hy, hk, by rw [contains_push, hse]; rfl⟩
      · exact ⟨x, hxe, hc, by rw [contains_push]; simp⟩
    · rintro ⟨y, hy, hk, hse⟩
      rw [contains_push, Bool.or_eq_true] at hse
      rcases hse with hse | hse
      · exact .inl ⟨y, hy, hk, hse⟩
      · have hb : y.born = x.born := beq_iff_eq.1 hse
        have := born_inj s2 hy hxe hb
        subst this
        exact .inr (val_inj _ _ (hk.symm.trans hc))
theorem info_key : ∃ i, Tryz.prog.info? 29 = some i ∧ i.zero = some (.agg (kc ⟨0, 0, 0⟩).toArray) ∧ i.size = 3 ∧ i.bytes = 8 := by
  have h : (Tryz.prog.info? 29).map (fun i => (i.zero, i.size, i.bytes)) = some (some (.agg (kc ⟨0, 0, 0⟩).toArray), 3, 8) := by kernel_rfl
  obtain ⟨i, hi, h⟩ := Option.map_eq_some_iff.1 h
  simp only [Prod.mk.injEq] at h
  exact ⟨i, hi, h.1, h.2.1, h.2.2⟩
theorem zero_key (w : World) : (zeroValue 29).run Tryz.prog w = .ok (.agg (kc ⟨0, 0, 0⟩).toArray) w := by kernel_rfl
theorem kc_one (c : K) : ∀ u ∈ kc c, u.oneCell' = true := by
  intro u hu
  simp [kc] at hu
  rcases hu with rfl | rfl | rfl <;> rfl
theorem kc_all (c : K) : (kc c).toArray.all (·.oneCell') = true := by simp [kc, Value.oneCell']
theorem kc_info (c : K) : (Tryz.prog.info? 29).map (·.size) = some (kc c).toArray.size := by show _ = some 3; kernel_rfl
theorem kc_size (c d : K) : (kc c).toArray.size = (kc d).toArray.size := rfl
theorem kc_len (c : K) : (kc c).length = 3 := rfl
theorem kcs_len (l : List K) : (kcs l).length = l.length * 3 := by
  induction l with
  | nil => rfl
  | cons c l ih => simp only [kcs, List.flatMap_cons, List.length_append, kc_len, List.length_cons] at *; omega
theorem kc_cell (W : World) (c : K) (t : TypeId) : ∀ j u, (kc c)[j]? = some u → (W.alloc (.cells (kc c).toArray t)).cell? ((⟨W.heap.size, 0, none⟩ : Addr).add j) = some u := by
  intro j u hj
  have hR := (Row.new W (kc c).toArray t).cell j
  have e1 : (⟨W.heap.size, 0, none⟩ : Addr).add j = ⟨W.heap.size, j, none⟩ := by
    simp only [Addr.add, Nat.zero_add]
    split
    · next h => rw [h]
    · rfl
  rw [e1, hR]
  simpa using hj
set_option maxHeartbeats 400000 in
set_option maxRecDepth 100000 in
theorem sortedK_any (b n : Nat) (G : K → Option Int) (fv : Value) (w : World) (hn : n ≤ 1000) (R : World → Value → List K → Prop) (hM : MapIs w Tryz.prog 29 K.val wval b n G)
    (SF : ∀ (W : World) (B : Nat) (v : Value) (l : List K), B ≤ W.heap.size → l.length ≤ 1000 → (∀ c ∈ l, ∃ u, G c = some u) → W.ownsRow B 29 3 v l.length (kcs l) →
      Calls Tryz.prog 35 #[v, fv] W fun e w' => e = .returned (.tuple #[]) ∧ ∃ l', l'.Perm l ∧ R w' v l' ∧ Below B W w') :
    Calls Tryz.prog 26 #[.map (some b), fv] w fun e w' => ∃ v l', e = .returned v ∧ l'.Nodup ∧ (∀ c, c ∈ l' ↔ ∃ u, G c = some u) ∧ R w' v l' ∧ Below w.heap.size w w' := by
  obtain ⟨es, clock, hb, F, hs, H1, H2⟩ := hM
  have hbl : b < w.heap.size := by
    by_cases c : b < w.heap.size
    · exact c
    · rw [Array.getElem?_eq_none (by omega)] at hb; cases hb
  have hrg := run_range_map w 24 29 44 b es clock Tryz.underlying24 hb
  have hb1 : (w.alloc (.mapIter (some b) clock #[] clock)).heap[b]? = some (.map es clock) := by rw [heap_alloc_old _ _ hbl]; exact hb
  have hr1 : (w.alloc (.mapIter (some b) clock #[] clock)).heap[w.heap.size]? = some (.mapIter (some b) clock #[] clock) := heap_alloc_new w _
  have HF := Lib.hid F
  have HH := Lib.hid H1
  have H2H := Lib.hid H2
  have HSF := Lib.hid SF
  clear SF
  have HS := Lib.hid hs
  have HB := Lib.hid hb1
  have HR := Lib.hid hr1
  have HN := Lib.hid hn
  clear F H1 H2 hb hs hb1 hr1 hn
  go_enter Tryz.func26, Tryz.ntmps26
  go_wp2_with fail
  generalize hw1 : w.alloc (.mapIter (some b) clock #[] clock) = w1 at *
  have hB1 : Below w.heap.size w w1 := by rw [← hw1]; exact below_alloc (Below.refl _ _) _
  obtain ⟨r, hrr⟩ : ∃ r, r = w.heap.size := ⟨_, rfl⟩
  rw [← hrr] at HR ⊢
  have hrle : w.heap.size ≤ r := by omega
  have hbr : b ≠ r := by omega
  clear hw1 hrg hrr
  go_loopw [5] (fun v wr => ∃ (seen : Array Nat) (c0 : Nat) (l : List K), wr.heap[r]? = some (.mapIter (some b) clock seen c0) ∧ clock ≤ c0 ∧ wr.heap[b]? = some (.map es clock) ∧ CollK es seen l ∧ l.length + (leftOf es seen).size ≤ es.size ∧ wr.ownsRow (r + 1) 29 3 v l.length (kcs l) ∧ Below w.heap.size w wr) (fun _ wr => (leftOf es (wr.iterSeen r)).size)
  case atStart => exact ⟨#[], clock, [], HR.out, Nat.le_refl _, HB.out, CollK.start es, by simpa using left_len es #[], ⟨rfl, .inl ⟨rfl, rfl⟩⟩, hB1⟩
  case round =>
    obtain ⟨seen, c0, l, hr, hc0, hbm, hC, hlen, hown, BB⟩ := hrel
    rcases run_next_at (P := Tryz.prog) wr 0 r b clock c0 seen es clock hr hbm HF.out.stamped.1 hc0 with ⟨h0, hnext⟩ | ⟨x, hx, w2, hw2, hnext⟩
    · have hall := all_seen es seen h0
      have hmem : ∀ c, c ∈ l ↔ ∃ u, G c = some u := fun c => by
        rw [hC.2 c]
        constructor
        · rintro ⟨x, hx, hk, _⟩
          obtain ⟨d, u, h1, _, h3⟩ := HH.out x hx
          have := val_inj _ _ (hk.symm.trans h1)
          subst this
          exact ⟨u, h3⟩
        · rintro ⟨u, hu⟩
          obtain ⟨x, hx, hk, _⟩ := H2H.out c u hu
          exact ⟨x, hx, hk, hall x hx⟩
      have hl1 : l.length ≤ 1000 := by
        have a1 := HN.out
        have a2 := HS.out
        omega
      have hrl : r + 1 ≤ wr.heap.size := by
        by_cases c : r < wr.heap.size
        · omega
        · rw [Array.getElem?_eq_none (by omega)] at hr; cases hr
      have S := Lib.hid (HSF.out wr (r + 1) u5 l hrl hl1 (fun c hc => (hmem c).1 hc) hown)
      have HM := Lib.hid hmem
      have HD := Lib.hid hC.1
      have BBH := Lib.hid BB
      clear hall hmem hl1 hrl hown hC hlen hbm hr BB h0
      go_wp2_with fail
      refine S.out.mono ?_
      rintro _ w9 ⟨rfl, l', hp, hR, hb9⟩
      go_wp2
      go_ret
      refine ⟨_, l', rfl, (hp.nodup_iff).2 HD.out, fun c => (hp.mem_iff).trans (HM.out c), hR, ?_⟩
      exact BBH.out.trans (hb9.mono (by omega))
    · obtain ⟨hxe, hxs⟩ := mem_left hx
      obtain ⟨c, cv, hck, _, _⟩ := HH.out x hxe
      have hlt : r < wr.heap.size := by
        by_cases c : r < wr.heap.size
        · exact c
        · rw [Array.getElem?_eq_none (by omega)] at hr; cases hr
      have h2r : w2.heap = wr.heap := by rcases hw2 with rfl | rfl <;> rfl
      have h2b : Below w.heap.size w w2 := by rcases hw2 with rfl | rfl; exact BB; exact below_dr BB
      have h2o : w2.ownsRow (r + 1) 29 3 u5 l.length (kcs l) := by rcases hw2 with rfl | rfl <;> exact hown
      have hr3 : (setBlock w2 r (.mapIter (some b) clock (seen.push x.born) clock)).heap[r]? = some (.mapIter (some b) clock (seen.push x.born) clock) := by
        simp [setBlock, h2r, hlt]
      have hoth : ∀ i, i ≠ r → (setBlock w2 r (.mapIter (some b) clock (seen.push x.born) clock)).heap[i]? = wr.heap[i]? := fun i hi => by
        simp [setBlock, h2r, Array.getElem?_setIfInBounds, Ne.symm hi]
      have hb3 : (setBlock w2 r (.mapIter (some b) clock (seen.push x.born) clock)).heap[b]? = some (.map es clock) := (hoth b hbr).trans hbm
      have hB3 : Below w.heap.size w (setBlock w2 r (.mapIter (some b) clock (seen.push x.born) clock)) := ⟨h2b.os, h2b.tape, h2b.output, by simp [setBlock]; exact h2b.size, fun i hi => by rw [hoth i (by omega), ← h2r]; exact h2b.block i hi⟩
      have ho3 : (setBlock w2 r (.mapIter (some b) clock (seen.push x.born) clock)).ownsRow (r + 1) 29 3 u5 l.length (kcs l) := by
        refine ⟨hown.1, ?_⟩
        rcases hown.2 with h | ⟨g, cap, cur, e1, e2, e3, e4⟩
        · exact .inl h
        · exact .inr ⟨g, cap, cur, e1, e2, by rw [hoth g (by omega)]; exact e3, e4⟩
      have hent := run_entry_at (P := Tryz.prog) _ r b clock seen es clock x hr3 hb3 hxe HF.out.stamped.2.1
      generalize setBlock w2 r (.mapIter (some b) clock (seen.push x.born) clock) = w3 at *
      rw [hck, kval_kc] at hent
      have HC := Lib.hid (hC.step HF.out.stamped hx hck)
      have HIS := Lib.hid (show wr.iterSeen r = seen by unfold World.iterSeen; rw [hr])
      have hpl : (kc c).length = 3 := rfl
      have hR3 := Lib.hid hr3
      have hBM3 := Lib.hid hb3
      have hsh := left_shrinks es seen x hx
      clear hw2 h2r h2b h2o hoth hlt hck hC hown BB hr hbm
      obtain ⟨inf, hi, h1, h2, h3⟩ := info_key
      have h3b : r < w3.heap.size := by
        by_cases c : r < w3.heap.size
        · exact c
        · rw [Array.getElem?_eq_none (by omega)] at hr3; cases hr3
      have HN2 : l.length + 1 ≤ 1000 := by
        have a1 := HN.out
        have a2 := HS.out
        omega
      have HI := Lib.hid hi
      have HO := Lib.hid ho3
      clear hi ho3
      go_wp2_with (first
        | ((with_reducible refine ev_alloc (N := 6) ?_ ?_ 29 ?_ _ zero_key ?_); (rfl); (rfl); (rfl); intro gp w4 hgp RP B4)
        | ((with_reducible refine ev_store ?_ 29 (Operand.tmp 6) (Operand.tmp 12) ?_ gp (kc c).toArray ?_ ?_ RP (kc_info c) (kc_size ⟨0, 0, 0⟩ c) (kc_all c) ?_ ?_); (rfl); (rfl); (rfl); (rfl); (rfl); intro w5 RZ S5; have hB5 := S5.below B4 hgp; have ho5 := own_below HO.out hB5; have hr5 : r < w5.heap.size := Nat.lt_of_lt_of_le h3b hB5.size)
        | ((with_reducible refine ev_load (N := 14) ?_ ?_ 29 (Operand.tmp 6) ?_ gp ?_ RZ _ Tryz.underlying29 ?_ (kc_info c) ?_); (rfl); (rfl); (rfl); (rfl); (rfl))
        | (at_builtin; refine wpList_append_own_at _ rfl _ _ 34 rfl (r + 1) 29 inf (.agg (kc ⟨0, 0, 0⟩).toArray) 3 8 Tryz.underlying34 HI.out h1 h2 h3 rfl (by decide) u5 l.length (kcs l) rfl (own_alloc ho5 _) ⟨w5.heap.size, 0, none⟩ 1 1 (kc c) rfl rfl (kc_cell w5 c _) (kc_one c) (by unfold maxLen; omega) (by omega) (by simp; omega) ?_; intro v2 w6 hown6 hg6 hnil6 hat6))
      have hnr : ∀ i, i ≤ r → some i ≠ u5.ownBlock := fun i hi e => by
        have := own_ge HO.out e.symm
        omega
      have hh : ∀ i, i ≤ r → w6.heap[i]? = w3.heap[i]? := fun i hi => by
        rw [hg6.block i (by simp; omega) (hnr i hi), heap_alloc_old _ _ (by omega)]
        exact hB5.block i (by omega)
      refine ⟨⟨seen.push x.born, clock, l ++ [c], (hh r (by omega)).trans hR3.out, Nat.le_refl _, (hh b (by omega)).trans hBM3.out, HC.out, by simp; omega, ?_, ?_⟩, ?_⟩
      · have e1 : kcs (l ++ [c]) = kcs l ++ kc c := by simp [kcs]
        rw [e1, List.length_append]
        exact hown6
      · exact (below_alloc (below_then hB3 hB5) _).grown hg6 (Nat.le_trans (below_then hB3 hB5).size (by simp)) (fun k hk => by have := own_ge HO.out hk; omega)
      · have e2 : w6.iterSeen r = seen.push x.born := by
          unfold World.iterSeen
          rw [hh r (by omega), hR3.out]
        rw [e2, HIS.out]
        exact hsh
end Go.Proofs.YtahagfdjpldblaaGreatDoor

namespace Go.Proofs.YtahagfdjpldblaaGreatDoor
open Go.RowKit Ky Go.Lib Go.Sort
set_option linter.unusedVariables false
set_option linter.unusedSimpArgs false

/-- w' is W, some draws and some new blocks later -/
def Gr (W w' : World) : Prop := ∃ q os', w' = grow (W.drewN q) os'
theorem Gr.refl (W : World) : Gr W W := ⟨0, #[], by simp [grow, World.drewN]⟩
theorem Gr.alloc {W w' : World} (h : Gr W w') (o : Obj) : Gr W (w'.alloc o) := by
  obtain ⟨q, os, rfl⟩ := h
  exact ⟨q, os ++ #[o], by rw [alloc_eq_grow, grow_grow]⟩
theorem Gr.drew {W w' : World} (h : Gr W w') : Gr W w'.drew := by
  obtain ⟨q, os, rfl⟩ := h
  exact ⟨q + 1, os, rfl⟩
theorem Gr.trans {a b c : World} (h : Gr a b) (k : Gr b c) : Gr a c := by
  obtain ⟨q, os, rfl⟩ := h
  obtain ⟨q', os', rfl⟩ := k
  exact ⟨q + q', os ++ os', by rw [← World.drewN_drewN, ← grow_grow]; rfl⟩
theorem Gr.below {W w' : World} (h : Gr W w') : Below W.heap.size W w' := by
  obtain ⟨q, os, rfl⟩ := h
  exact below_grow W.heap.size W (Nat.le_refl _) q os
theorem pack_gr (k : K) (hk : k.ok) (w : World) : Calls Tryz.prog 22 #[k.val] w fun r w' => r = .returned (.int .u64 ((k.num : Nat) : Int)) ∧ Gr w w' := by
  obtain ⟨ha, he, hp⟩ := hk
  unfold K.val
  go_enter Tryz.func22, Tryz.ntmps22
  go_wp2
  go_ret
  exact ⟨ret_int (pack_bits k.a k.e k.p ha he hp), (Gr.refl w).alloc _⟩
set_option maxHeartbeats 1000000 in
theorem compare_gr (x y : K) (hx : x.ok) (hy : y.ok) (w : World) : Calls Tryz.prog 27 #[x.val, y.val] w fun r w' => r = .returned (.int .i64 (Ky.cmp x.num y.num)) ∧ Gr w w' := by
  have PX := Lib.hid (pack_gr x hx)
  have PY := Lib.hid (pack_gr y hy)
  have CM := Lib.hid (cmp_u64 x.num y.num)
  unfold K.val at *
  generalize Ky.cmp x.num y.num = c at *
  generalize ((x.num : Nat) : Int) = nx at *
  generalize ((y.num : Nat) : Int) = ny at *
  go_enter Tryz.func27, Tryz.ntmps27
  go_wp2_with fail
  have RA := (Row.new w #[.int .u32 (x.a : Int), .int .u16 (x.e : Int), .int .u16 (x.p : Int)] 29).alloc (.cells #[.int .u32 (y.a : Int), .int .u16 (y.e : Int), .int .u16 (y.p : Int)] 29)
  have RB := Row.new' (w.alloc (.cells #[.int .u32 (x.a : Int), .int .u16 (x.e : Int), .int .u16 (x.p : Int)] 29)) #[.int .u32 (y.a : Int), .int .u16 (y.e : Int), .int .u16 (y.p : Int)] 29 (g := w.heap.size + 1) (by simp)
  have hB := Gr.alloc (Gr.alloc (Gr.refl w) (.cells #[.int .u32 (x.a : Int), .int .u16 (x.e : Int), .int .u16 (x.p : Int)] 29)) (.cells #[.int .u32 (y.a : Int), .int .u16 (y.e : Int), .int .u16 (y.p : Int)] 29)
  generalize (w.alloc (.cells #[.int .u32 (x.a : Int), .int .u16 (x.e : Int), .int .u16 (x.p : Int)] 29)).alloc (.cells #[.int .u32 (y.a : Int), .int .u16 (y.e : Int), .int .u16 (y.p : Int)] 29) = w2 at *
  obtain ⟨g, hg⟩ : ∃ g, g = w.heap.size := ⟨_, rfl⟩
  obtain ⟨g', hg'⟩ : ∃ g', g' = w.heap.size + 1 := ⟨_, rfl⟩
  rw [← hg] at RA
  rw [← hg'] at RB
  rw [← hg', ← hg]
  have a0 : w2.cell? ⟨g, 0, none⟩ = some (.int .u32 (x.a : Int)) := RA.cell 0
  have a1 : w2.cell? ⟨g, 1, none⟩ = some (.int .u16 (x.e : Int)) := RA.cell 1
  have a2 : w2.cell? ⟨g, 2, none⟩ = some (.int .u16 (x.p : Int)) := RA.cell 2
  have b0 : w2.cell? ⟨g', 0, none⟩ = some (.int .u32 (y.a : Int)) := RB.cell 0
  have b1 : w2.cell? ⟨g', 1, none⟩ = some (.int .u16 (y.e : Int)) := RB.cell 1
  have b2 : w2.cell? ⟨g', 2, none⟩ = some (.int .u16 (y.p : Int)) := RB.cell 2
  clear RA RB hg hg'
  go_region_held3 (fun w' => Gr w w' ∧ w'.cell? ⟨g, 0, none⟩ = some (.int .u32 (x.a : Int)) ∧ w'.cell? ⟨g, 1, none⟩ = some (.int .u16 (x.e : Int)) ∧ w'.cell? ⟨g, 2, none⟩ = some (.int .u16 (x.p : Int)) ∧ w'.cell? ⟨g', 0, none⟩ = some (.int .u32 (y.a : Int)) ∧ w'.cell? ⟨g', 1, none⟩ = some (.int .u16 (y.e : Int)) ∧ w'.cell? ⟨g', 2, none⟩ = some (.int .u16 (y.p : Int))) (refine ⟨?_, ?_, ?_, ?_, ?_, ?_, ?_⟩ <;> first | assumption | exact hB.drew | exact a0 | exact a1 | exact a2 | exact b0 | exact b1 | exact b2 | simp [go_sem, *]) (first | (go_at_call 22; rename_i hHeld _ _; ((with_reducible refine (PX.out _).mono ?_)); rintro e wx ⟨rfl, hg2⟩; have HB := hHeld.1.trans hg2; have hb := hg2.below; have HC1 := cell_then hHeld.2.1 hb; have HC2 := cell_then hHeld.2.2.1 hb; have HC3 := cell_then hHeld.2.2.2.1 hb; have HC4 := cell_then hHeld.2.2.2.2.1 hb; have HC5 := cell_then hHeld.2.2.2.2.2.1 hb; have HC6 := cell_then hHeld.2.2.2.2.2.2 hb; clear hb hg2 hHeld) | (go_at_call 22; rename_i hHeld _ _; ((with_reducible refine (PY.out _).mono ?_)); rintro e wx ⟨rfl, hg2⟩; have HB := hHeld.1.trans hg2; have hb := hg2.below; have HC1 := cell_then hHeld.2.1 hb; have HC2 := cell_then hHeld.2.2.1 hb; have HC3 := cell_then hHeld.2.2.2.1 hb; have HC4 := cell_then hHeld.2.2.2.2.1 hb; have HC5 := cell_then hHeld.2.2.2.2.2.1 hb; have HC6 := cell_then hHeld.2.2.2.2.2.2 hb; clear hb hg2 hHeld) | (go_at_call 36; rename_i hHeld _ _; ((with_reducible refine (CM.out _).mono ?_)); rintro e wx ⟨rfl, rfl⟩))
  rename_i hHeld
  have BB := hHeld.1
  clear hHeld
  go_wp2
  go_ret
  exact ⟨rfl, BB⟩
end Go.Proofs.YtahagfdjpldblaaGreatDoor

namespace Go.Proofs.YtahagfdjpldblaaGreatDoor
open Go.RowKit Ky Go.Lib Go.Sort
set_option linter.unusedVariables false
set_option linter.unusedSimpArgs false

def pcmp (c d : K × K) : Int := if Ky.cmp c.1.num d.1.num = 0 then Ky.cmp c.2.num d.2.num else Ky.cmp c.1.num d.1.num
def okp (c : K × K) : Prop := c.1.ok ∧ c.2.ok
set_option maxHeartbeats 1000000 in
set_option maxRecDepth 100000 in
theorem pairs_cmp (c d : K × K) (hc : okp c) (hd : okp d) (w : World) : Calls Tryz.prog 30 #[.agg (pc c).toArray, .agg (pc d).toArray] w fun e w' => e = .returned (.int .i64 (pcmp c d)) ∧ Gr w w' := by
  have C1 := Lib.hid (compare_gr c.1 d.1 hc.1 hd.1)
  have C2 := Lib.hid (compare_gr c.2 d.2 hc.2 hd.2)
  have HG := Lib.hid (Gr.alloc (Gr.alloc (Gr.refl w) (.cells (pc c).toArray 49)) (.cells (pc d).toArray 49))
  have RA := (Row.new w (pc c).toArray 49).alloc (.cells (pc d).toArray 49)
  have RB := Row.new' (w.alloc (.cells (pc c).toArray 49)) (pc d).toArray 49 (g := w.heap.size + 1) (by simp)
  unfold K.val at C1 C2
  unfold pcmp
  generalize Ky.cmp c.1.num d.1.num = n1 at *
  generalize Ky.cmp c.2.num d.2.num = n2 at *
  unfold pc at *
  clear hc hd
  by_cases h : n1 = 0
  · have q : (n1 != 0) = false := by rw [h]; rfl
    rw [if_pos h]
    clear h
    go_enter Tryz.func30, Tryz.ntmps30
    go_wp2_with fail
    refine (C1.out _).mono ?_
    rintro _ w2 ⟨rfl, hg2⟩
    have RA2 := RA.below hg2.below
    have RB2 := RB.below hg2.below
    have HG2 := Lib.hid (HG.out.trans hg2)
    have a3 : w2.cell? ⟨w.heap.size, 3, none⟩ = some (.int .u32 (c.2.a : Int)) := RA2.cell 3
    have a4 : w2.cell? ⟨w.heap.size, 4, none⟩ = some (.int .u16 (c.2.e : Int)) := RA2.cell 4
    have a5 : w2.cell? ⟨w.heap.size, 5, none⟩ = some (.int .u16 (c.2.p : Int)) := RA2.cell 5
    have b3 : w2.cell? ⟨w.heap.size + 1, 3, none⟩ = some (.int .u32 (d.2.a : Int)) := RB2.cell 3
    have b4 : w2.cell? ⟨w.heap.size + 1, 4, none⟩ = some (.int .u16 (d.2.e : Int)) := RB2.cell 4
    have b5 : w2.cell? ⟨w.heap.size + 1, 5, none⟩ = some (.int .u16 (d.2.p : Int)) := RB2.cell 5
    clear RA RB RA2 RB2 hg2 C1
    go_wp2_with fail
    refine (C2.out _).mono ?_
    rintro _ w3 ⟨rfl, hg3⟩
    go_wp2
    go_ret
    exact ⟨rfl, HG2.out.trans hg3⟩
  · have q : (n1 != 0) = true := by rw [bne_iff_ne]; exact h
    rw [if_neg h]
    clear h
    go_enter Tryz.func30, Tryz.ntmps30
    go_wp2_with fail
    refine (C1.out _).mono ?_
    rintro _ w2 ⟨rfl, hg2⟩
    go_wp2
    go_ret
    exact ⟨rfl, HG.out.trans hg2⟩
theorem cmp_lt (x y : Nat) : Ky.cmp x y < 0 ↔ x < y := by
  unfold Ky.cmp
  split
  · omega
  · split <;> omega
theorem cmp_zero (x y : Nat) : Ky.cmp x y = 0 ↔ x = y := by
  unfold Ky.cmp
  split
  · omega
  · split <;> omega
/-- pairs' order -/
theorem pcmp_lt (c d : K × K) : pcmp c d < 0 ↔ (c.1.num < d.1.num ∨ c.1.num = d.1.num ∧ c.2.num < d.2.num) := by
  unfold pcmp
  split
  · next h => rw [cmp_zero] at h; rw [cmp_lt]; omega
  · next h => rw [cmp_zero] at h; rw [cmp_lt]; omega
theorem pcmp_swo : SWO (ltOf fun c d : { c : K × K // okp c } => pcmp c.1 d.1) where
  irrefl x := by unfold ltOf; rw [decide_eq_false_iff_not, pcmp_lt]; omega
  trans x y z h1 h2 := by unfold ltOf at *; rw [decide_eq_true_eq, pcmp_lt] at *; omega
  ntrans x y z h1 h2 := by unfold ltOf at *; rw [decide_eq_false_iff_not, pcmp_lt] at *; omega
end Go.Proofs.YtahagfdjpldblaaGreatDoor
