/-
  The machine's side of the law MoneyLong: it answers true.
-/
import Derived.Test.YtpgjmhhdhngdcaaDoorAwake2
import Derived.Test.YtpgjmhhdhngdcaaDoorMoneyL
import Derived.Shelf.Strings.SlTrimAscii
import Derived.Shelf.Strings.Replace
namespace Go.Proofs.YtpgjmhhdhngdcaaDoor
open Go.RowKit
set_option linter.unusedVariables false
set_option linter.unusedSimpArgs false

set_option maxRecDepth 100000 in
theorem info256 : (Tryd.prog.info? 82).map (fun i => (i.zero, i.size)) = some (some (.agg (Array.replicate 256 (.bool false))), 256) := by kernel_rfl
set_option maxRecDepth 100000 in
theorem trim_any (s : ByteArray) (w : World) :
    Calls Tryd.prog 34 #[.string s, .string ⟨#[45, 48]⟩] w fun e w' => e = .returned (.string ⟨(Lib.trimLeftS s.data.toList [45, 48]).toArray⟩) ∧ Below w.heap.size w w' :=
  Any.strings_TrimLeft_laid Tryd.lays161 info256 s ⟨#[45, 48]⟩ w (by decide) (by
    intro j b hj
    rcases j with _ | _ | j
    · simp at hj; subst hj; decide
    · simp at hj; subst hj; decide
    · simp at hj)
theorem extra154 : Go.Proofs.Builder.Extra Tryd.prog Tryd.laysM154_ren := {
  sizeBuilder := by kernel_rfl
  liesBuilder := by kernel_rfl
  t5 := Tryd.underlying5
  a5 := Tryd.isAgg5
  z5 := Tryd.sizeOf5
  v5 := Tryd.zeroValue5
  infoByte := by kernel_rfl
  cellsByte := by kernel_rfl
  sizeByte := by kernel_rfl
  neB5 := by decide }
theorem replace_any (s : ByteArray) (hs : s.size < 4294967281) (w : World) (hG : Glb w) :
    Calls Tryd.prog 35 #[.string s, .string ⟨#[46]⟩, .string ⟨#[]⟩, .int .i64 1] w fun e w' => e = .returned (.string ⟨(Lib.replace s.data.toList [46] [] 1).toArray⟩) ∧ Below w.heap.size w w' := by
  obtain ⟨m, hm⟩ := hG.maxlen
  exact Any.strings_Replace { Tryd.laysM154 with } extra154 s ⟨#[46]⟩ ⟨#[]⟩ 1 m w hs hm (by decide) (by
    show s.size + Lib.countB s ⟨#[46]⟩ * 0 ≤ _
    omega)
theorem text_len (n : Int) (h : Wd.I64 n) : (Mn.text n).length ≤ 40 := by
  have hlen : (Lib.decDigits (n.natAbs / 100)).length ≤ 20 := dec_len _ (by unfold Wd.I64 at h; omega)
  unfold Mn.text Mn.sign Mn.two
  split <;> simp <;> omega
theorem app_list (x y : List UInt8) : ((⟨x.toArray⟩ : ByteArray) ++ ⟨y.toArray⟩).toList = x ++ y := by
  rw [Lib.toList_data]
  simp
theorem app_list3 (x y z : List UInt8) : ((⟨x.toArray⟩ : ByteArray) ++ ⟨y.toArray⟩ ++ ⟨z.toArray⟩).toList = x ++ (y ++ z) := by
  rw [Lib.toList_data]
  simp
set_option maxHeartbeats 1000000 in
theorem moneyLong_any (n : Int) (hn : -2147483648 ≤ n ∧ n ≤ 2147483647) (w : World) (hG : Glb w) :
    Calls Tryd.prog 13 #[.int .i32 n] w fun e w' => e = .returned (.bool true) ∧ Below w.heap.size w w' := by
  have I1 : Wd.I64 n := by unfold Wd.I64; omega
  have I2 : Wd.I64 (n * 100) := by unfold Wd.I64; omega
  have e0 : IntKind.i64.wrap n = n := by rw [IntKind.wrap_i64]; omega
  have e1 : IntKind.i64.wrap (n * 100) = n * 100 := by rw [IntKind.wrap_i64]; omega
  have t1 := Lib.hid (text_any n I1)
  have t2 := Lib.hid (text_any (n * 100) I2)
  have R := Lib.hid (replace_any ⟨(Mn.text n).toArray⟩ (by have := text_len n I1; show (Mn.text n).toArray.size < _; simp; omega))
  have er : (⟨(Mn.text n).toArray⟩ : ByteArray).data.toList = Mn.text n := rfl
  rw [er, Mn.repl_text] at R
  have T := Lib.hid (trim_any ⟨(Mn.sign n ++ (Lib.decDigits (n.natAbs / 100) ++ Mn.two (n.natAbs % 100))).toArray⟩)
  have et : (⟨(Mn.sign n ++ (Lib.decDigits (n.natAbs / 100) ++ Mn.two (n.natAbs % 100))).toArray⟩ : ByteArray).data.toList = Mn.sign n ++ (Lib.decDigits (n.natAbs / 100) ++ Mn.two (n.natAbs % 100)) := rfl
  rw [et] at T
  go_enter Tryd.func13, Tryd.ntmps13
  go_wp2_with fail
  refine (awake2 _ hG).mono ?_
  rintro _ w1 ⟨rfl, hb1⟩
  have hG1 := hG.below hb1
  go_wp2_with fail
  refine (t1.out _ hG1).mono ?_
  rintro _ w2 ⟨rfl, hb2⟩
  have hG2 := hG1.below hb2
  have hB2 := below_then hb1 hb2
  go_wp2_with fail
  refine (t2.out _ hG2).mono ?_
  rintro _ w3 ⟨rfl, hb3⟩
  have hG3 := hG2.below hb3
  have hB3 := below_then hB2 hb3
  clear t1 t2 hb1 hb2 hb3 hB2 hG hG1 hG2
  rcases (show n = 0 ∨ 0 < n ∨ n < 0 by omega) with h | h | h
  · have hq : (n == 0) = true := by rw [h]; rfl
    clear h
    go_wp2
    go_ret
    exact ⟨rfl, hB3⟩
  · have hq : (n == 0) = false := by rw [beq_eq_false_iff_ne]; omega
    rw [Mn.trim_all n (by omega)] at T
    have q1 : (Mn.text (n * 100) == ((⟨(Lib.decDigits n.natAbs).toArray⟩ : ByteArray) ++ ⟨#[46, 48, 48]⟩).toList) = true := by
      rw [show (⟨#[46, 48, 48]⟩ : ByteArray) = ⟨([46, 48, 48] : List UInt8).toArray⟩ from rfl, app_list, Mn.text_long]
      unfold Mn.sign
      rw [if_neg (by omega)]
      simp
    have hlen : (Lib.decDigits n.natAbs).length ≤ 20 := dec_len _ (by omega)
    generalize Lib.decDigits n.natAbs = D at *
    go_wp2_with fail
    refine (R.out _ hG3).mono ?_
    rintro _ w4 ⟨rfl, hb4⟩
    have hB4 := below_then hB3 hb4
    go_wp2_with fail
    refine (T.out _).mono ?_
    rintro _ w5 ⟨rfl, hb5⟩
    have hB5 := below_then hB4 hb5
    generalize Mn.text (n * 100) = t at *
    go_wp2
    go_ret
    exact ⟨rfl, hB5⟩
  · have hq : (n == 0) = false := by rw [beq_eq_false_iff_ne]; omega
    rw [Mn.trim_all n (by omega)] at T
    have et2 : Mn.text (n * 100) = 45 :: (Lib.decDigits n.natAbs ++ [46, 48, 48]) := by
      rw [Mn.text_long]
      unfold Mn.sign
      rw [if_pos h]
      rfl
    have q1 : (Mn.text (n * 100) == ((⟨(Lib.decDigits n.natAbs).toArray⟩ : ByteArray) ++ ⟨#[46, 48, 48]⟩).toList) = false := by
      rw [show (⟨#[46, 48, 48]⟩ : ByteArray) = ⟨([46, 48, 48] : List UInt8).toArray⟩ from rfl, app_list, et2, beq_eq_false_iff_ne]
      obtain ⟨d, r, e, hd⟩ := Mn.dec_head n.natAbs (by omega)
      rw [e]
      intro h2
      injection h2 with h2 _
      subst h2
      revert hd
      decide
    have q2 : (Mn.text (n * 100) == ((⟨#[45]⟩ : ByteArray) ++ ⟨(Lib.decDigits n.natAbs).toArray⟩ ++ ⟨#[46, 48, 48]⟩).toList) = true := by
      rw [show (⟨#[46, 48, 48]⟩ : ByteArray) = ⟨([46, 48, 48] : List UInt8).toArray⟩ from rfl, show (⟨#[45]⟩ : ByteArray) = ⟨([45] : List UInt8).toArray⟩ from rfl, app_list3, et2]
      simp
    clear et2
    have hlen : (Lib.decDigits n.natAbs).length ≤ 20 := dec_len _ (by omega)
    generalize Lib.decDigits n.natAbs = D at *
    generalize Mn.text (n * 100) = t at *
    go_wp2_with fail
    refine (R.out _ hG3).mono ?_
    rintro _ w4 ⟨rfl, hb4⟩
    have hB4 := below_then hB3 hb4
    have hG4 := hG3.below hb4
    go_wp2_with fail
    refine (T.out _).mono ?_
    rintro _ w5 ⟨rfl, hb5⟩
    have hB5 := below_then hB4 hb5
    have hG5 := hG4.below hb5
    go_wp2_with fail
    refine (R.out _ hG5).mono ?_
    rintro _ w6 ⟨rfl, hb6⟩
    have hB6 := below_then hB5 hb6
    go_wp2_with fail
    refine (T.out _).mono ?_
    rintro _ w7 ⟨rfl, hb7⟩
    have hB7 := below_then hB6 hb7
    go_wp2
    go_ret
    exact ⟨rfl, hB7⟩
end Go.Proofs.YtpgjmhhdhngdcaaDoor
