/-
  What money.Sum comes to, as the machine runs it: the sum of a slice's numbers, if it fits.
-/
import Derived.Test.YtpgjmhhdhngdcaaDoorMoneyA
namespace Go.Proofs.YtpgjmhhdhngdcaaDoor
open Go.RowKit
set_option linter.unusedVariables false
set_option linter.unusedSimpArgs false

/-- the numbers of a slice that is not empty lie in memory -/
def Nums (w : World) (b off : Nat) (zs : List Int) : Prop := ∀ i, i < zs.length → w.cell? ⟨b, off + i, none⟩ = some (.int .i64 (zs.getD i 0))
theorem Nums.below {w w' : World} {b off : Nat} {zs : List Int} (h : Nums w b off zs) (hb : Below w.heap.size w w') : Nums w' b off zs := fun i hi => cell_then (h i hi) hb
theorem sum_take_succ (zs : List Int) (k : Nat) (h : k < zs.length) : (zs.take (k + 1)).sum = (zs.take k).sum + zs.getD k 0 := by
  rw [List.take_succ_eq_append_getElem h, List.sum_append]; simp [List.getD_eq_getElem?_getD, h]
theorem sum_bd (zs : List Int) (h : ∀ z ∈ zs, Wd.I64 z) : -9223372036854775808 * (zs.length : Int) ≤ zs.sum ∧ zs.sum ≤ 9223372036854775807 * (zs.length : Int) := by
  induction zs with
  | nil => simp
  | cons z l ih =>
    have h1 := h z (by simp)
    have h2 := ih (fun x hx => h x (by simp [hx]))
    unfold Wd.I64 at h1
    simp only [List.sum_cons, List.length_cons]
    omega

set_option maxHeartbeats 1000000 in
theorem mSum_none (a : Option Addr) (cap : Nat) (w : World) :
    Calls Tryd.prog 23 #[.slice a 0 cap] w fun e w' => e = .returned (.tuple #[.int .i64 0, .bool true]) ∧ Below w.heap.size w w' := by
  have e0 : Wd.hi 0 = 0 := by unfold Wd.hi wrap64; rfl
  have e1 : Wd.lo 0 = 0 := by unfold Wd.lo; rfl
  go_enter Tryd.func23, Tryd.ntmps23
  go_wp2_with fail
  refine wp_loop_rounds 1 ?_
  rw [rounds_succ]
  go_wp2_with fail
  have k := fits_at 0 (by omega) (w.alloc (.cells #[.int .i64 0, .int .u64 0] 56))
  rw [e0, e1, Wd.fit_yes (by unfold Wd.I64; omega)] at k
  refine k.mono ?_
  rintro _ w1 ⟨rfl, hb1⟩
  clear k
  go_wp2
  go_ret2
  exact ⟨rfl, below_then ((Below.refl _ _).alloc (Nat.le_refl _) _) hb1⟩

set_option maxHeartbeats 1000000 in
theorem mSum_any (b off cap : Nat) (zs : List Int) (w : World) (hn : Nums w b off zs) (h0 : zs.length * 8 ≤ 140737488351232) (hz : ∀ z ∈ zs, Wd.I64 z) :
    Calls Tryd.prog 23 #[.slice (some ⟨b, off, none⟩) zs.length cap] w fun e w' => e = .returned (Wd.fit zs.sum) ∧ Below w.heap.size w w' := by
  have e0 : Wd.hi 0 = 0 := by unfold Wd.hi wrap64; rfl
  have e1 : Wd.lo 0 = 0 := by unfold Wd.lo; rfl
  have hsum := sum_bd zs hz
  have HN := Lib.hid hn
  have HZ := Lib.hid hz
  clear hn hz
  go_enter Tryd.func23, Tryd.ntmps23
  go_wp2_with fail
  go_loopw [10] (fun i wr => ∃ k : Nat, k ≤ zs.length ∧ i = .int .i64 k ∧ Row wr w.heap.size #[.int .i64 (Wd.hi (zs.take k).sum), .int .u64 (Wd.lo (zs.take k).sum)] 56 ∧ Below w.heap.size w wr) (fun i _ => zs.length - (intOf i).toNat)
  case atStart => exact ⟨0, by omega, rfl, by simpa [e0, e1] using Row.new w #[.int .i64 0, .int .u64 0] 56, (Below.refl _ _).alloc (Nat.le_refl _) _⟩
  case round =>
    obtain ⟨k, hk, rfl, R, BB⟩ := hrel
    have hw : w.heap.size < wr.heap.size := R.lt
    by_cases hlt : k < zs.length
    · have hc : wr.cell? ⟨b, off + k, none⟩ = some (.int .i64 (zs.getD k 0)) := (BB.cell (block_lt_of_cell (HN.out k hlt))).trans (HN.out k hlt)
      have hI : Wd.I64 (zs.getD k 0) := HZ.out _ (by rw [List.getD_eq_getElem?_getD, List.getElem?_eq_getElem hlt]; exact List.getElem_mem hlt)
      have hs := Lib.hid (sum_take_succ zs k hlt)
      have k0 : wr.cell? ⟨w.heap.size, 0, none⟩ = some (.int .i64 (Wd.hi (zs.take k).sum)) := R.cell 0
      have k1 : wr.cell? ⟨w.heap.size, 1, none⟩ = some (.int .u64 (Wd.lo (zs.take k).sum)) := R.cell 1
      have f0 := R.frozen 0
      have f1 := R.frozen 1
      generalize zs.getD k 0 = z at *
      go_wp2_with fail
      have d0 : wr.drew.cell? ⟨w.heap.size, 0, none⟩ = some (.int .i64 (Wd.hi (zs.take k).sum)) := k0
      have d1 : wr.drew.cell? ⟨w.heap.size, 1, none⟩ = some (.int .u64 (Wd.lo (zs.take k).sum)) := k1
      have q0 : wr.drew.frozen? ⟨w.heap.size, 0, none⟩ = false := f0
      have q1 : wr.drew.frozen? ⟨w.heap.size, 1, none⟩ = false := f1
      have D0 := Lib.hid d0
      have D1 := Lib.hid d1
      have Q0 := Lib.hid q0
      have Q1 := Lib.hid q1
      clear d0 d1 q0 q1
      go_region_with (first | (go_at_call 33; refine (of_any z hI _).mono ?_; rintro e wx ⟨rfl, hb⟩; have a0 := cell_then D0.out hb; have a1 := cell_then D1.out hb; have a2 := frozen_then D0.out Q0.out hb; have a3 := frozen_then D1.out Q1.out hb) | (go_at_call 41; refine (add_any (zs.take k).sum z _).mono ?_; rintro e wy ⟨rfl, hb2⟩; have b0 := cell_then a0 hb2; have b1 := cell_then a1 hb2; have b2 := frozen_then a0 a2 hb2; have b3 := frozen_then a1 a3 hb2))
      all_goals
        have R2 := ((((show Row wr.drew w.heap.size _ _ from R).below hb).below hb2).set 0 (.int .i64 (Wd.hi ((zs.take k).sum + z)))).set 1 (.int .u64 (Wd.lo ((zs.take k).sum + z)))
        have hB2 := below_set (below_set (below_then (below_then (show Below w.heap.size w wr.drew from BB.drew) hb) hb2) (Nat.le_refl _) 0 (.int .i64 (Wd.hi ((zs.take k).sum + z)))) (Nat.le_refl _) 1 (.int .u64 (Wd.lo ((zs.take k).sum + z)))
        clear a0 a1 a2 a3 b0 b1 b2 b3 D0 D1 Q0 Q1 k0 k1 f0 f1 hc hw
        go_wp2
        go_roundw
        case rel => exact ⟨k + 1, by omega, by go_num, by rw [hs.out]; exact R2, hB2⟩
        case measure => simp [intOf]; omega
    · have hk0 : k = zs.length := by omega
      subst hk0
      rw [List.take_length] at R
      have k0 : wr.cell? ⟨w.heap.size, 0, none⟩ = some (.int .i64 (Wd.hi zs.sum)) := R.cell 0
      have k1 : wr.cell? ⟨w.heap.size, 1, none⟩ = some (.int .u64 (Wd.lo zs.sum)) := R.cell 1
      go_wp2_with fail
      refine (fits_at zs.sum (by omega) _).mono ?_
      rintro _ w4 ⟨rfl, hb4⟩
      have hB := below_then BB hb4
      by_cases h : Wd.I64 zs.sum
      · rw [Wd.fit_yes h]
        go_wp2
        go_ret2
        exact ⟨by rw [Wd.fit_yes h]; rfl, hB⟩
      · rw [Wd.fit_no h]
        go_wp2
        go_ret2
        exact ⟨by rw [Wd.fit_no h]; rfl, hB⟩
end Go.Proofs.YtpgjmhhdhngdcaaDoor
