/-
  The machine's side of the law ShareSums: it answers true.
-/
import Derived.Test.YtpgjmhhdhngdcaaDoorShareL
import Derived.Deep.QuietTactic
import Derived.BigQuiet
namespace Go.Proofs.YtpgjmhhdhngdcaaDoor
open Go.RowKit
set_option linter.unusedVariables false
set_option linter.unusedSimpArgs false

theorem wOf_pos' (us : List Nat) (h1 : 1 ≤ us.length) : 0 < (wOf us).sum := by
  have h0 := wOf_bd us 0 (by omega)
  have := Sh.getD_le_sum (wOf us) 0
  omega
theorem nums_cap {w : World} {B : Nat} {e : TypeId} {v : Value} {n : Nat} {zs : List Int} (h : w.ownsRow B e 1 v n (iv zs)) (hz : ∀ z ∈ zs, Wd.I64 z) (h1 : 1 ≤ n) : ∃ b cap, v = .slice (some ⟨b, 0, none⟩) n cap ∧ n ≤ cap ∧ cap ≤ maxLen ∧ Nums w b 0 zs := by
  obtain ⟨a, cap, e1, hN⟩ := nums_of_own h hz
  obtain ⟨_, h2⟩ := h
  rcases h2 with ⟨rfl, rfl⟩ | ⟨g, cap', cur, rfl, _, hh, hc, hm, hs, ht⟩
  · omega
  · obtain ⟨rfl, _, rfl⟩ := (show some (⟨g, 0, none⟩ : Addr) = a ∧ n = n ∧ cap' = cap by simpa using e1)
    obtain ⟨_, _, h3⟩ := hN
    rcases h3 with h3 | ⟨b, off, e3, h3⟩
    · omega
    · obtain ⟨rfl, rfl⟩ := (show g = b ∧ 0 = off by simpa using e3)
      exact ⟨g, cap', rfl, hc, hm, h3⟩
theorem wrap_sum (s x : Int) : IntKind.u64.wrap (IntKind.u64.wrap s + IntKind.u64.wrap x) = IntKind.u64.wrap (s + x) := by
  rw [IntKind.wrap_u64, IntKind.wrap_u64, IntKind.wrap_u64, IntKind.wrap_u64]
  omega
theorem take_sum_int (l : List Int) (k : Nat) (h : k < l.length) : (l.take (k + 1)).sum = (l.take k).sum + l.getD k 0 := by
  rw [List.take_succ_eq_append_getElem h, List.sum_append]; simp [List.getD_eq_getElem?_getD, h]

set_option maxRecDepth 100000 in
set_option maxHeartbeats 8000000 in
theorem shareSums_any (a : Int) (p : Option Addr) (n cap0 : Nat) (us : List Nat) (w : World) (hG : Glb w) (hI : Wd.I64 a) (hn : IsU32 w p n us) (h1 : 1 ≤ n) (h8 : n ≤ 8) :
    Calls Tryd.prog 9 #[.int .i64 a, .slice p n cap0] w fun e w' => e = .returned (.bool true) ∧ Below w.heap.size w w' := by
  have hl := hn.1
  have HN := Lib.hid hn
  clear hn
  have hq1 : ((n : Int) == 0) = false := by simp; omega
  have hq2 : decide ((8 : Int) < (n : Int)) = false := by simp; omega
  have hT := wOf_pos' us (by omega)
  have HW := Lib.hid (wOf_bd us)
  have HI := Lib.hid (wOf_I64 us)
  have hwl : (wOf us).length = n := by rw [wOf_len, hl]
  have hal : (Sh.allot a (wOf us)).length = n := by rw [allot_len, hwl]
  have hS := Lib.hid (allot_sum a (wOf us) hT)
  have LK := Lib.hid (allot_like a (wOf us) hT)
  have SN := Lib.hid (allot_sign a (wOf us))
  have ON := Lib.hid (allot_one a ((wOf us).getD 0 0) (HW.out 0 (by omega)).1)
  have WT := Lib.hid fun (W : World) (hb : Below w.heap.size w W) => weights_own p n cap0 us W (HN.out.below hb) h8
  have AL := Lib.hid fun (q : Option Addr) (k : Nat) (W : World) (hN : IsNums W q n (ni (wOf us))) => allot_nums a q n k (wOf us) W hI hN h1 h8 (fun i hi => HW.out i (by omega))
  have A1 := Lib.hid fun (q : Option Addr) (k : Nat) (W : World) (hN : IsNums W q 1 (ni [(wOf us).getD 0 0])) => allot_nums a q 1 k [(wOf us).getD 0 0] W hI hN (by omega) (by omega) (fun i hi => by
    obtain rfl : i = 0 := by omega
    exact HW.out 0 (by omega))
  generalize wOf us = ws at *
  generalize Sh.allot a ws = sh at *
  clear HN
  go_enter Tryd.func9, Tryd.ntmps9
  go_wp2_with fail
  refine (awake3 _ hG).mono ?_
  rintro _ w1 ⟨rfl, hb1⟩
  go_wp2_with fail
  refine (WT.out _ hb1).mono ?_
  rintro _ w2 ⟨v, rfl, hown, hb2⟩
  have hB2 := below_then hb1 hb2
  obtain ⟨b, cap, rfl, hcap, hmax, hN⟩ := nums_cap hown HI.out h1
  go_wp2_with fail
  refine (AL.out _ cap _ ⟨by simp [ni, hwl], HI.out, .inr ⟨b, 0, rfl, hN⟩⟩).mono ?_
  rintro _ w3 ⟨q2, cap2, rfl, hN2, hb3⟩
  have hB3 := below_then hB2 hb3
  replace hN := hN.below hb3
  clear WT AL hb1 hb2 hb3 hB2 hown
  obtain ⟨_, _, hN2⟩ := hN2
  rcases hN2 with h0 | ⟨b2, off2, rfl, hN2⟩
  · omega
  go_wp2_with fail
  go_loopw [8, 42] (fun t i wr => ∃ k : Nat, k ≤ n ∧ i = .int .i64 k ∧ t = .int .u64 (IntKind.u64.wrap (sh.take k).sum) ∧ Below w3.heap.size w3 wr) (fun _ i _ => n - (intOf i).toNat)
  case atStart => exact ⟨0, by omega, rfl, rfl, Below.refl _ _⟩
  case round =>
    obtain ⟨k, hk, rfl, rfl, BB⟩ := hrel
    by_cases hlt : k < n
    · have hcs := hN2 k (by omega)
      replace hcs : wr.cell? ⟨b2, off2 + k, none⟩ = some (.int .i64 (sh.getD k 0)) := (BB.cell (block_lt_of_cell hcs)).trans hcs
      have hts := Lib.hid (take_sum_int sh k (by omega))
      have hsn := SN.out k
      have hk1 : (0 : Int) ≤ (k : Int) := by omega
      have hk2 : (k : Int) < (n : Int) := by omega
      have SC : ∀ x : Int, sh.getD k 0 = x → (decide (0 < x) = true ∧ decide (a < 0) = false ∧ decide (x < 0) = false) ∨ (decide (0 < x) = false ∧ decide (x < 0) = true ∧ decide (0 < a) = false) ∨ (decide (0 < x) = false ∧ decide (x < 0) = false ∧ (0 : Int) = 0) := by
        intro x hx
        obtain ⟨n1, n2⟩ := hsn
        rw [hx] at n1 n2
        by_cases p1 : 0 < x
        · exact .inl ⟨decide_eq_true p1, decide_eq_false (fun h => by have := n1 h; omega), decide_eq_false (by omega)⟩
        · by_cases p2 : x < 0
          · exact .inr (.inl ⟨decide_eq_false p1, decide_eq_true p2, decide_eq_false (fun h => by have := n2 (by omega); omega)⟩)
          · exact .inr (.inr ⟨decide_eq_false p1, decide_eq_false p2, rfl⟩)
      clear hsn
      have SC := SC _ rfl
      have ew : ∀ s : Int, IntKind.u64.wrap (IntKind.u64.wrap s + IntKind.u64.wrap (sh.getD k 0)) = IntKind.u64.wrap (s + sh.getD k 0) := fun s => wrap_sum _ _
      have ew := Lib.hid (ew (sh.take k).sum)
      generalize (sh.take k).sum = s0 at *
      rcases (show k = 0 ∨ ∃ j, k = j + 1 from by cases k; exact .inl rfl; exact .inr ⟨_, rfl⟩) with hk0 | ⟨j, hj⟩
      · have hq0 : decide (0 < (k : Int)) = false := by simp; omega
        have hq0n : decide (0 < k) = false := by simp; omega
        clear hk0
        generalize sh.getD k 0 = x at *
        rcases SC with ⟨s1, s2, s3⟩ | ⟨s1, s2, s3⟩ | ⟨s1, s2, s3⟩
        all_goals
          go_wp2_with fail
          go_quiet (fail)
          have BB2 := below_dN BB nq
          go_wp2
          go_roundw
          case rel => exact ⟨k + 1, by omega, by go_num, by rw [hts.out], BB2⟩
          case measure => simp [intOf]; omega
      · have hq0 : decide (0 < (k : Int)) = true := by simp; omega
        have hq0n : decide (0 < k) = true := by simp; omega
        have hkj : IntKind.i64.wrap ((k : Int) - 1) = (j : Int) := by rw [IntKind.wrap_i64]; omega
        have hj1 : (0 : Int) ≤ (j : Int) := by omega
        have hj2 : (j : Int) < (n : Int) := by omega
        have hcy := hN2 j (by omega)
        replace hcy : wr.cell? ⟨b2, off2 + j, none⟩ = some (.int .i64 (sh.getD j 0)) := (BB.cell (block_lt_of_cell hcy)).trans hcy
        have hcw := hN k (by simp [ni]; omega)
        rw [ni_getD, Nat.zero_add] at hcw
        replace hcw : wr.cell? ⟨b, k, none⟩ = some (.int .i64 ((ws.getD k 0 : Nat) : Int)) := (BB.cell (block_lt_of_cell hcw)).trans hcw
        have hcv := hN j (by simp [ni]; omega)
        rw [ni_getD, Nat.zero_add] at hcv
        replace hcv : wr.cell? ⟨b, j, none⟩ = some (.int .i64 ((ws.getD j 0 : Nat) : Int)) := (BB.cell (block_lt_of_cell hcv)).trans hcv
        have LC : (((ws.getD k 0 : Nat) : Int) == ((ws.getD j 0 : Nat) : Int)) = false ∨ ((((ws.getD k 0 : Nat) : Int) == ((ws.getD j 0 : Nat) : Int)) = true ∧ IntKind.i64.wrap (sh.getD k 0 - sh.getD j 0) = sh.getD k 0 - sh.getD j 0 ∧ IntKind.i64.wrap (sh.getD j 0 - sh.getD k 0) = sh.getD j 0 - sh.getD k 0 ∧ decide (1 < sh.getD k 0 - sh.getD j 0) = false ∧ decide (1 < sh.getD j 0 - sh.getD k 0) = false) := by
          by_cases c : ws.getD k 0 = ws.getD j 0
          · right
            have h := LK.out k j c
            rw [IntKind.wrap_i64, IntKind.wrap_i64]
            generalize sh.getD k 0 = x at *
            generalize sh.getD j 0 = y at *
            refine ⟨by rw [c]; simp, ?_, ?_, decide_eq_false ?_, decide_eq_false ?_⟩ <;> omega
          · left
            rw [beq_eq_false_iff_ne]
            omega
        clear LK SN hS ON A1 HW HI hN hN2 hj
        generalize ((ws.getD k 0 : Nat) : Int) = zk at *
        generalize ((ws.getD j 0 : Nat) : Int) = zj at *
        generalize sh.getD j 0 = y at *
        generalize sh.getD k 0 = x at *
        rcases LC with c1 | ⟨c1, c2, c3, c4, c5⟩
        all_goals
          rcases SC with ⟨s1, s2, s3⟩ | ⟨s1, s2, s3⟩ | ⟨s1, s2, s3⟩
        all_goals
          go_wp2_with fail
          go_quiet (fail)
          have BB2 := below_dN BB nq
          go_wp2
          go_roundw
          case rel => exact ⟨k + 1, by omega, by go_num, by rw [hts.out], BB2⟩
          case measure => simp [intOf]; omega
    · have hk0 : n = k := by omega
      subst hk0
      rw [List.take_of_length_le (by omega), hS.out]
      have hb1 : (1 : Int) ≤ (cap : Int) := by omega
      have hN1 : IsNums wr (some ⟨b, 0, none⟩) 1 (ni [ws.getD 0 0]) := by
        refine ⟨rfl, fun z hz => ?_, .inr ⟨b, 0, rfl, fun i hi => ?_⟩⟩
        · have := HW.out 0 (by omega)
          obtain rfl : z = ((ws.getD 0 0 : Nat) : Int) := by simpa [ni] using hz
          unfold Wd.I64
          omega
        · obtain rfl : i = 0 := by simpa [ni] using hi
          have hc := hN 0 (by simp [ni]; omega)
          rw [ni_getD] at hc
          rw [ni_getD]
          exact (BB.cell (block_lt_of_cell hc)).trans hc
      go_wp2_with fail
      refine (A1.out _ _ _ hN1).mono ?_
      rintro _ w5 ⟨q5, cap5, rfl, hN5, hb5⟩
      have hB5 := below_then (below_then hB3 BB) hb5
      rw [ON.out] at hN5
      go_wp2_with fail
      have N2 : IsNums (w5.alloc (.cells (iv [a]).toArray 2)) (some ⟨w5.heap.size, 0, none⟩) 1 [a] := nums_lit (Row.new w5 _ _) (fun z hz => by simp at hz; rw [hz]; exact hI)
      refine (equal_nums q5 _ cap5 1 1 [a] _ (hN5.below ((Below.refl _ w5).alloc (Nat.le_refl _) _)) N2 (by omega)).mono ?_
      rintro _ w6 ⟨rfl, hb6⟩
      have hB6 := below_then (below_alloc hB5 _) hb6
      go_wp2
      go_ret
      exact ⟨rfl, hB6⟩
theorem shareSums_law (a : Int) (p : Option Addr) (n cap0 : Nat) (us : List Nat) (w : World) (hG : Glb w) (hI : Wd.I64 a) (hn : IsU32 w p n us) :
    Calls Tryd.prog 9 #[.int .i64 a, .slice p n cap0] w fun e w' => e = .returned (.bool true) ∧ Below w.heap.size w w' := by
  by_cases h : 1 ≤ n ∧ n ≤ 8
  · exact shareSums_any a p n cap0 us w hG hI hn h.1 h.2
  · by_cases h0 : n = 0
    · subst h0
      go_enter Tryd.func9, Tryd.ntmps9
      go_wp2_with fail
      refine (awake3 _ hG).mono ?_
      rintro _ w1 ⟨rfl, hb1⟩
      go_wp2
      go_ret
      exact ⟨rfl, hb1⟩
    · have hq1 : ((n : Int) == 0) = false := by simp; omega
      have hq2 : (8 : Int) < (n : Int) := by omega
      go_enter Tryd.func9, Tryd.ntmps9
      go_wp2_with fail
      refine (awake3 _ hG).mono ?_
      rintro _ w1 ⟨rfl, hb1⟩
      go_wp2
      go_ret
      exact ⟨rfl, hb1⟩
end Go.Proofs.YtpgjmhhdhngdcaaDoor
