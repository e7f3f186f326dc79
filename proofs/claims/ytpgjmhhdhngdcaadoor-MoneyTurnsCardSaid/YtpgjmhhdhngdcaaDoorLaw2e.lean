/-
  The machine's side of the law MoneyTurns: it answers true.
-/
import Derived.Test.YtpgjmhhdhngdcaaDoorAwake2
import Derived.Test.YtpgjmhhdhngdcaaDoorClone
import Derived.Test.YtpgjmhhdhngdcaaDoorArr
import Derived.Deep.QuietTactic
import Derived.Deep.RegionHeld3
namespace Go.Proofs.YtpgjmhhdhngdcaaDoor
open Go.RowKit
set_option linter.unusedVariables false
set_option linter.unusedSimpArgs false

theorem nums_drop {w : World} {b off : Nat} {zs : List Int} (h : Nums w b off zs) (i : Nat) : Nums w b (off + i) (zs.drop i) := by
  intro j hj
  have hj2 : i + j < zs.length := by simp at hj; omega
  have := h (i + j) hj2
  rw [← Nat.add_assoc] at this
  rw [this]
  simp [List.getD_eq_getElem?_getD]
theorem nums_take {w : World} {b off : Nat} {zs : List Int} (h : Nums w b off zs) (i : Nat) : Nums w b off (zs.take i) := by
  intro j hj
  have hj2 : j < zs.length := by simp at hj; omega
  have hj3 : j < i := by simp at hj; omega
  rw [h j hj2]
  simp [List.getD_eq_getElem?_getD, List.getElem?_take, hj3]
def Wd.fv (t : Int) : Int := if -9223372036854775808 ≤ t ∧ t ≤ 9223372036854775807 then t else 0
def Wd.fb (t : Int) : Bool := decide (-9223372036854775808 ≤ t ∧ t ≤ 9223372036854775807)
theorem fit_eq (t : Int) : Wd.fit t = .tuple #[.int .i64 (Wd.fv t), .bool (Wd.fb t)] := by
  unfold Wd.fit Wd.fv Wd.fb
  split <;> simp [*]
theorem fv_I64 (t : Int) : Wd.I64 (Wd.fv t) := by unfold Wd.fv Wd.I64; split <;> omega
theorem fv_yes {t : Int} (h : Wd.fb t = true) : Wd.fv t = t := by unfold Wd.fb at h; unfold Wd.fv; rw [if_pos (of_decide_eq_true h)]

set_option maxHeartbeats 4000000 in
set_option maxRecDepth 100000 in
theorem moneyTurns_mid (b off len cap kk i : Nat) (zs : List Int) (w : World) (hG : Glb w) (hn : Nums w b off zs) (hz : ∀ z ∈ zs, Wd.I64 z) (hlen : zs.length = len) (hl : len ≤ 40) (h0 : 0 < len) (hcap : len ≤ cap) (hcm : cap ≤ maxLen) (hkk : kk ≤ 255) (hi : kk % len = i) :
    Calls Tryd.prog 7 #[.slice (some ⟨b, off, none⟩) len cap, .int .u8 kk] w fun e w' => e = .returned (.bool true) ∧ Below w.heap.size w w' := by
  have hil : i < len := hi ▸ Nat.mod_lt _ h0
  have hdl : (zs.drop i).length = len - i := by simp; omega
  have htl : (zs.take i).length = i := by simp; omega
  have S1 : Hid (∀ W, Below w.heap.size w W → Calls Tryd.prog 23 #[.slice (some ⟨b, off, none⟩) len cap] W fun e w' => e = .returned (.tuple #[.int .i64 (Wd.fv zs.sum), .bool (Wd.fb zs.sum)]) ∧ Below W.heap.size W w') := Lib.hid fun W hb => fit_eq _ ▸ sum_nums _ len cap zs W (IsNums.below ⟨hlen, hz, .inr ⟨b, off, rfl, hn⟩⟩ hb) (by omega)
  have S2 : Hid (∀ W, Below w.heap.size w W → Calls Tryd.prog 23 #[.slice (some ⟨b, off, none⟩) i cap] W fun e w' => e = .returned (.tuple #[.int .i64 (Wd.fv (zs.take i).sum), .bool (Wd.fb (zs.take i).sum)]) ∧ Below W.heap.size W w') := Lib.hid fun W hb => fit_eq _ ▸ sum_nums _ i cap (zs.take i) W (IsNums.below ⟨htl, fun z h => hz z (List.mem_of_mem_take h), .inr ⟨b, off, rfl, nums_take hn i⟩⟩ hb) (by omega)
  have S3 : Hid (∀ W, Below w.heap.size w W → Calls Tryd.prog 23 #[.slice (some ⟨b, off + i, none⟩) (len - i) (cap - i)] W fun e w' => e = .returned (.tuple #[.int .i64 (Wd.fv (zs.drop i).sum), .bool (Wd.fb (zs.drop i).sum)]) ∧ Below W.heap.size W w') := Lib.hid fun W hb => fit_eq _ ▸ sum_nums _ (len - i) (cap - i) (zs.drop i) W (IsNums.below ⟨hdl, fun z h => hz z (List.mem_of_mem_drop h), .inr ⟨b, off + i, rfl, nums_drop hn i⟩⟩ hb) (by omega)
  have CL : Hid (∀ W, Below w.heap.size w W → Calls Tryd.prog 24 #[.slice (some ⟨b, off + i, none⟩) (len - i) (cap - i)] W fun e w' => ∃ v, e = .returned v ∧ w'.ownsRow w.heap.size 2 1 v (len - i) (iv (zs.drop i)) ∧ Below w.heap.size w w') := Lib.hid fun W hb => (clone_nums b (off + i) (len - i) (cap - i) (zs.drop i) W ((nums_drop hn i).below hb) hdl (by omega)).mono fun e w' ⟨v, e1, ho, hb2⟩ => ⟨v, e1, own_mono ho hb.size, below_then hb hb2⟩
  have esum : (zs.drop i ++ zs.take i).sum = zs.sum := by
    rw [List.sum_append]
    have := congrArg List.sum (List.take_append_drop i zs)
    rw [List.sum_append] at this
    omega
  have hz2 : Hid (∀ z ∈ zs.drop i ++ zs.take i, Wd.I64 z) := Lib.hid fun z h => by
    rcases List.mem_append.1 h with h | h
    · exact hz z (List.mem_of_mem_drop h)
    · exact hz z (List.mem_of_mem_take h)
  have tk : Hid (Nums w b off (zs.take i)) := Lib.hid (nums_take hn i)
  have hsp : (zs.take i).sum + (zs.drop i).sum = zs.sum := by
    have := congrArg List.sum (List.take_append_drop i zs)
    rwa [List.sum_append] at this
  have S4 : Hid (∀ W, Calls Tryd.prog 18 #[.int .i64 (Wd.fv (zs.take i).sum), .int .i64 (Wd.fv (zs.drop i).sum)] W fun e w' => (∃ x y, e = .returned (.tuple #[.int .i64 x, .bool y]) ∧ (Wd.fb (zs.take i).sum = true → Wd.fb (zs.drop i).sum = true → x = Wd.fv zs.sum ∧ y = Wd.fb zs.sum)) ∧ Below W.heap.size W w') := Lib.hid fun W => (mAdd_any _ _ (fv_I64 _) (fv_I64 _) W).mono fun e w' ⟨e1, hb⟩ => ⟨⟨_, _, e1.trans (congrArg Ending.returned (fit_eq _)), fun h1 h2 => by rw [fv_yes h1, fv_yes h2, hsp]; exact ⟨rfl, rfl⟩⟩, hb⟩
  have hki : (kk : Int) % (len : Int) = (i : Int) := by omega
  have hb1 : (0 : Int) ≤ (i : Int) := by omega
  have hb2 : (i : Int) ≤ (len : Int) := by omega
  have hb3 : (i : Int) ≤ (cap : Int) := by omega
  have hb4 : (len : Int) ≤ (cap : Int) := by omega
  have hb5 : ((len : Int) - (i : Int)).toNat = len - i := by omega
  have hb6 : ((cap : Int) - (i : Int)).toNat = cap - i := by omega
  have hci : ¬ cap = i := by omega
  have hq0 : ((len : Int) == 0) = false := by simp; omega
  have hq4 : decide ((40 : Int) < (len : Int)) = false := by simp; omega
  clear hn hz
  have HE := Lib.hid esum
  have HT := Lib.hid htl
  clear hsp esum htl hdl hi
  go_enter Tryd.func7, Tryd.ntmps7
  go_wp2_with fail
  refine (awake2 _ hG).mono ?_
  rintro _ w1 ⟨rfl, hB1⟩
  go_wp2_with fail
  refine (S1.out _ hB1).mono ?_
  rintro _ w2 ⟨rfl, hB⟩
  have hB2 := below_then hB1 hB
  clear hB
  go_wp2_with fail
  go_region_held3 (fun w' => Below w.heap.size w w') (first | assumption | exact below_dr hB2) (first | (go_at_call 24; rename_i hHeld _ _; refine (CL.out _ hHeld).mono ?_; rintro _ wy ⟨v, rfl, hown, HB⟩; clear hHeld) | (rename_i hHeld _ _; refine step_append rfl _ _ rfl hHeld _ _ _ rfl hown b off i cap (zs.take i) rfl HT.out (tk.out.below hHeld) (by omega) ?_; intro v2 w5 hown2 HB2; obtain ⟨a2, cap2, rfl, hN2⟩ := nums_of_own hown2 hz2.out; clear hHeld hown2) | (go_at_call 23; rename_i hHeld _ _; refine (sum_nums a2 _ cap2 _ _ hN2 (by omega)).mono ?_; rintro _ w6 ⟨rfl, hb6⟩; have HB6 := below_then hHeld hb6; rw [HE.out, fit_eq]))
  clear CL hown HB HB2 hN2 hb6
  go_wp2_with fail
  refine (S2.out _ HB6).mono ?_
  rintro _ w7 ⟨rfl, hb7⟩
  have hB7 := below_then HB6 hb7
  go_wp2_with fail
  refine (S3.out _ hB7).mono ?_
  rintro _ w8 ⟨rfl, hb8⟩
  have hB8 := below_then hB7 hb8
  go_wp2_with fail
  refine (S4.out _).mono ?_
  rintro _ w9 ⟨⟨x, y, rfl, hxy⟩, hb9⟩
  have hB9 := below_then hB8 hb9
  clear S1 S2 S3 S4 hB1 hB2 HB6 hb7 hB7 hb8 hB8 hb9
  generalize Wd.fb (zs.take i).sum = p at *
  generalize Wd.fb (zs.drop i).sum = q at *
  generalize Wd.fv (zs.take i).sum = pv at *
  generalize Wd.fv (zs.drop i).sum = qv at *
  generalize Wd.fv zs.sum = tv at *
  generalize Wd.fb zs.sum = tb at *
  rcases p with _ | _
  · go_wp2
    go_ret
    exact ⟨rfl, hB9⟩
  · rcases q with _ | _
    · go_wp2
      go_ret
      exact ⟨rfl, hB9⟩
    · obtain ⟨rfl, rfl⟩ := hxy rfl rfl
      go_wp2
      go_ret
      exact ⟨rfl, hB9⟩
theorem moneyTurns_skip (a : Option Addr) (len cap : Nat) (k : Int) (w : World) (hG : Glb w) (hl : 40 < len ∨ len = 0) :
    Calls Tryd.prog 7 #[.slice a len cap, .int .u8 k] w fun e w' => e = .returned (.bool true) ∧ Below w.heap.size w w' := by
  rcases hl with hl | rfl
  · go_enter Tryd.func7, Tryd.ntmps7
    go_wp2_with fail
    refine (awake2 _ hG).mono ?_
    rintro _ w1 ⟨rfl, hb1⟩
    go_wp2
    go_ret
    exact ⟨rfl, hb1⟩
  · go_enter Tryd.func7, Tryd.ntmps7
    go_wp2_with fail
    refine (awake2 _ hG).mono ?_
    rintro _ w1 ⟨rfl, hb1⟩
    go_wp2
    go_ret
    exact ⟨rfl, hb1⟩
theorem moneyTurns_law (a : Option Addr) (len cap : Nat) (zs : List Int) (k : Int) (w : World) (hG : Glb w) (hn : IsNums w a len zs) (hc : len ≤ cap) (hm : cap ≤ maxLen) (hk : 0 ≤ k ∧ k ≤ 255) :
    Calls Tryd.prog 7 #[.slice a len cap, .int .u8 k] w fun e w' => e = .returned (.bool true) ∧ Below w.heap.size w w' := by
  by_cases hl : 40 < len ∨ len = 0
  · exact moneyTurns_skip a len cap k w hG hl
  · obtain ⟨h1, h2, h3⟩ := hn
    rcases h3 with h3 | ⟨b, off, rfl, h3⟩
    · omega
    · have := moneyTurns_mid b off len cap k.toNat _ zs w hG h3 h2 h1 (by omega) (by omega) hc hm (by omega) rfl
      rwa [show ((k.toNat : Nat) : Int) = k by omega] at this
end Go.Proofs.YtpgjmhhdhngdcaaDoor
