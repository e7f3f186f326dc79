/-
  The machine's side of the laws MoneyParses and MoneyTexts: each answers true.
-/
import Derived.Test.YtpgjmhhdhngdcaaDoorAwake2
namespace Go.Proofs.YtpgjmhhdhngdcaaDoor
open Go.RowKit
set_option linter.unusedVariables false
set_option linter.unusedSimpArgs false

set_option maxHeartbeats 1000000 in
theorem moneyParses_any (s : ByteArray) (hs : s.size < 4294967281) (w : World) (hG : Glb w) :
    Calls Tryd.prog 4 #[.string s] w fun e w' => e = .returned (.bool true) ∧ Below w.heap.size w w' := by
  have hp := Lib.hid (parse_any s hs)
  rcases hq : Mn.parse s.data.toList with _ | n
  · rw [hq] at hp
    clear hq
    go_enter Tryd.func4, Tryd.ntmps4
    go_wp2_with fail
    refine (awake2 _ hG).mono ?_
    rintro _ w1 ⟨rfl, hb1⟩
    go_wp2_with fail
    refine (hp.out _ (hG.below hb1)).mono ?_
    rintro _ w2 ⟨rfl, hb2⟩
    unfold Mn.end_
    go_wp2
    go_ret
    exact ⟨rfl, below_then hb1 hb2⟩
  · rw [hq] at hp
    have ht := Mn.parse_some hq
    have hI : Wd.I64 n := Mn.parse_bd hq
    have es : s = ⟨(Mn.text n).toArray⟩ := by rw [ht]
    have tx := Lib.hid (text_any n hI)
    subst es
    clear hq ht hs
    generalize Mn.text n = tv at *
    go_enter Tryd.func4, Tryd.ntmps4
    go_wp2_with fail
    refine (awake2 _ hG).mono ?_
    rintro _ w1 ⟨rfl, hb1⟩
    go_wp2_with fail
    refine (hp.out _ (hG.below hb1)).mono ?_
    rintro _ w2 ⟨rfl, hb2⟩
    have hB2 := below_then hb1 hb2
    unfold Mn.end_
    go_wp2_with fail
    refine (tx.out _ (hG.below hB2)).mono ?_
    rintro _ w3 ⟨rfl, hb3⟩
    go_wp2
    go_ret
    exact ⟨rfl, below_then hB2 hb3⟩
end Go.Proofs.YtpgjmhhdhngdcaaDoor
