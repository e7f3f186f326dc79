import Derived.Test.YtbnhodpbamijkaaGreatDoorMrg24
namespace Go.Proofs.YtbnhodpbamijkaaGreatDoor
open Go.RowKit
set_option linter.unusedVariables false
set_option linter.unusedSimpArgs false

set_option maxHeartbeats 2000000 in
theorem lexSplits_law (s : ByteArray) (hs : s.size ≤ 140737488351232) (w : World) (hM : Glb5 w) :
    Calls Tryz.prog 3 #[.string s] w fun e w' => e = .returned (.bool true) ∧ Below w.heap.size w w' := by
  have HM := Lib.hid hM
  have HA := Lib.hid (awake12 w hM)
  by_cases h : 2000 < s.size
  · have q : (2000 : Int) < (s.size : Int) := by omega
    clear hM h
    go_enter Tryz.func3, Tryz.ntmps3
    go_wp2_with fail
    refine HA.out.mono ?_
    rintro _ w1 ⟨rfl, hb⟩
    go_wp2_with fail
    exact bodyPost_ret (v := .bool true) (by simp [results, Tryz.results3, go_sem]) rfl ⟨rfl, hb⟩
  · have q : ¬ (2000 : Int) < (s.size : Int) := by omega
    obtain ⟨l, hl⟩ : ∃ l, l = s.data.toList := ⟨_, rfl⟩
    have hsz : s.size = l.length := by rw [hl]; exact size_data s
    have HS := Lib.hid fun W hW => splitL_any s l hl (by omega) W hW
    have HT := Lib.hid fun W hW => lsplit_any s l hl (by omega) W hW
    have HLL := Lib.hid (show l.length ≤ 2000 by omega)
    rcases hr : Lx.split Dy.parse l 0 with ⟨p, e⟩ | ts
    · rw [hr] at HS HT
      clear hM h hl hsz hr
      go_enter Tryz.func3, Tryz.ntmps3
      go_wp2_with fail
      refine HA.out.mono ?_
      rintro _ w1 ⟨rfl, hb1⟩
      have HB1 := Lib.hid hb1
      clear hb1
      go_wp2_with fail
      refine (HS.out w1 (HM.out.below HB1.out)).mono ?_
      rintro _ w2 ⟨⟨r, rfl, rfl⟩, hb2⟩
      have HB2 := Lib.hid (below_then HB1.out hb2)
      clear hb2
      go_wp2_with fail
      refine (HT.out w2 (HM.out.below HB2.out)).mono ?_
      rintro _ w3 ⟨⟨r, rfl, rfl⟩, hb3⟩
      have HB3 := Lib.hid (below_then HB2.out hb3)
      clear hb3
      go_wp2_with fail
      refine (equal_tk none none 0 0 [] w3 (.inl rfl) (.inl rfl) (by simp)).mono ?_
      rintro _ w4 ⟨rfl, hb4⟩
      go_wp2
      go_ret
      exact ⟨rfl, below_then HB3.out hb4⟩
    · rw [hr] at HS HT
      have hlen : ts.length ≤ 1000000 := by
        obtain ⟨_, _, _, _, hn⟩ := Lx.split_again Dy.parse l 0 ts hr 0
        omega
      have HLEN := Lib.hid hlen
      clear hM h hl hsz hr hlen
      go_enter Tryz.func3, Tryz.ntmps3
      go_wp2_with fail
      refine HA.out.mono ?_
      rintro _ w1 ⟨rfl, hb1⟩
      have HB1 := Lib.hid hb1
      clear hb1
      go_wp2_with fail
      refine (HS.out w1 (HM.out.below HB1.out)).mono ?_
      rintro _ w2 ⟨⟨r, rfl, v2, rfl, ho2⟩, hb2⟩
      have HB2 := Lib.hid (below_then HB1.out hb2)
      have HO2 := Lib.hid ho2
      clear hb2 ho2
      go_wp2_with fail
      refine (HT.out w2 (HM.out.below HB2.out)).mono ?_
      rintro _ w3 ⟨⟨r, rfl, v3, rfl, ho3⟩, hb3⟩
      have HB3 := Lib.hid (below_then HB2.out hb3)
      obtain ⟨_, p2, c2, rfl, hE2⟩ := els_own (ownW_below HO2.out hb3)
      obtain ⟨_, p3, c3, rfl, hE3⟩ := els_own ho3
      have HE := Lib.hid (And.intro hE2 hE3)
      clear hb3 ho3 hE2 hE3
      go_wp2_with fail
      refine (equal_tk p2 p3 c2 c3 ts w3 HE.out.1 HE.out.2 HLEN.out).mono ?_
      rintro _ w4 ⟨rfl, hb4⟩
      go_wp2
      go_ret
      exact ⟨rfl, below_then HB3.out hb4⟩
end Go.Proofs.YtbnhodpbamijkaaGreatDoor
