import Derived.Test.YtbnhodpbamijkaaGreatDoorMrg23
import Derived.Test.YtbnhodpbamijkaaGreatDoorMrg24
namespace Go.Proofs.YtbnhodpbamijkaaGreatDoor
open Go.RowKit
set_option linter.unusedVariables false
set_option linter.unusedSimpArgs false

set_option maxHeartbeats 2000000 in
theorem lexLong_law (n : Int) (hn : 0 ≤ n ∧ n ≤ 255) (w : World) (hM : Glb5 w) :
    Calls Tryz.prog 5 #[.int .u8 n] w fun e w' => e = .returned (.bool true) ∧ Below w.heap.size w w' := by
  have HM := Lib.hid hM
  have HA := Lib.hid (awake12 w hM)
  obtain ⟨c, hc⟩ : ∃ c : Nat, c = (65533 + n % 7).toNat := ⟨_, rfl⟩
  have hcb : 65533 ≤ c ∧ c ≤ 65539 := by omega
  have hm : n.tmod 7 = (c : Int) - 65533 := by rw [Int.tmod_eq_emod_of_nonneg hn.1]; omega
  have hme : n % 7 = (c : Int) - 65533 := by omega
  have e1 : IntKind.u8.wrap ((c : Int) - 65533) = (c : Int) - 65533 := by rw [IntKind.wrap_u8]; omega
  have e2 : IntKind.i64.wrap ((c : Int) - 65533) = (c : Int) - 65533 := by rw [IntKind.wrap_i64]; omega
  have e3 : IntKind.i64.wrap (65533 + ((c : Int) - 65533)) = (c : Int) := by rw [IntKind.wrap_i64]; omega
  have hrp := fun W => repeat_any ⟨#[32]⟩ c W (by omega) (by show 1 ≤ 100000; omega)
  rw [show (⟨#[32]⟩ : ByteArray).data.toList = List.replicate 1 32 by rfl, Lib.repeatL_replicate, Nat.mul_one] at hrp
  have HRP := Lib.hid hrp
  have hsp := fun W hW => split_any ⟨(List.replicate c (32 : UInt8)).toArray⟩ (List.replicate c 32) rfl W hW
  unfold lexSplit at hsp
  rw [List.length_replicate, Lx.split_blanks] at hsp
  have HSP := Lib.hid hsp
  have hsz : (⟨(List.replicate c (32 : UInt8)).toArray⟩ : ByteArray).size = c := by rw [size_data]; simp
  have HZ := Lib.hid hsz
  have HC := Lib.hid hcb
  generalize (⟨(List.replicate c (32 : UInt8)).toArray⟩ : ByteArray) = s at *
  have hsz2 : (s.size : Int) = (c : Int) := by rw [HZ.out]
  by_cases h : 65536 < c
  · rw [if_pos h] at HSP
    have q : (65536 : Int) < (s.size : Int) := by omega
    clear hM hc hcb hrp hsp hsz h hsz2
    go_enter Tryz.func5, Tryz.ntmps5
    go_wp2_with fail
    refine HA.out.mono ?_
    rintro _ w1 ⟨rfl, hb1⟩
    have HB1 := Lib.hid hb1
    clear hb1
    go_wp2_with fail
    refine (HRP.out w1).mono ?_
    rintro _ w2 ⟨rfl, hb2⟩
    have HB2 := Lib.hid (below_then HB1.out hb2)
    clear hb2
    go_wp2_with fail
    refine (HSP.out w2 (HM.out.below HB2.out)).mono ?_
    rintro _ w3 ⟨⟨r, rfl, rfl⟩, hb3⟩
    have HB3 := Lib.hid (below_then HB2.out hb3)
    clear hb3
    go_wp2_with fail
    exact bodyPost_ret (v := .bool true) (by simp [results, Tryz.results5, go_sem]) rfl ⟨rfl, HB3.out⟩
  · rw [if_neg h] at HSP
    have q : ¬ (65536 : Int) < (s.size : Int) := by omega
    have HZ2 := Lib.hid hsz2
    clear hM hc hcb hrp hsp hsz h hsz2
    go_enter Tryz.func5, Tryz.ntmps5
    go_wp2_with fail
    refine HA.out.mono ?_
    rintro _ w1 ⟨rfl, hb1⟩
    have HB1 := Lib.hid hb1
    clear hb1
    go_wp2_with fail
    refine (HRP.out w1).mono ?_
    rintro _ w2 ⟨rfl, hb2⟩
    have HB2 := Lib.hid (below_then HB1.out hb2)
    clear hb2
    go_wp2_with fail
    refine (HSP.out w2 (HM.out.below HB2.out)).mono ?_
    rintro _ w3 ⟨⟨r, rfl, v, rfl, hown⟩, hb3⟩
    have HB3 := Lib.hid (below_then HB2.out hb3)
    obtain ⟨g, cap, rfl, hcell⟩ := own_at hown (by simp)
    have c0 : w3.cell? ⟨g, 4, none⟩ = some (.int .i64 (s.size : Int)) := by
      have := hcell 0 4 _ (by simp) rfl
      rw [HZ2.out]
      simpa [Lx.Tk.put] using this
    have hq : ((s.size : Int) == (s.size : Int)) = true := by simp
    simp only [List.length_singleton]
    clear hb3 hown hcell
    go_wp2_with fail
    exact bodyPost_ret (v := .bool true) (by simp [results, Tryz.results5, go_sem]) rfl ⟨rfl, HB3.out⟩
end Go.Proofs.YtbnhodpbamijkaaGreatDoor
