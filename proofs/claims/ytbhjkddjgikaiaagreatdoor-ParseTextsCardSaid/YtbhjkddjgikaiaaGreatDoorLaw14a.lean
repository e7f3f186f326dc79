import Derived.Test.YtbhjkddjgikaiaaGreatDoorMrg37
import Derived.Test.YtbhjkddjgikaiaaGreatDoorMrg40
namespace Go.Proofs.YtbhjkddjgikaiaaGreatDoor
open Go.RowKit
set_option linter.unusedVariables false
set_option linter.unusedSimpArgs false
set_option maxHeartbeats 4000000 in
set_option maxRecDepth 100000 in
theorem parseTexts_law (s : ByteArray) (w : World) (hM : Glb13 w) :
    Calls Tryz.prog 4 #[.string s] w fun e w' => e = .returned (.bool true) ∧ Below w.heap.size w w' := by
  have HM := Lib.hid hM
  have HA := Lib.hid (awake14 w hM)
  obtain ⟨l, hl⟩ : ∃ l, l = s.data.toList := ⟨_, rfl⟩
  have hsz : s.size = l.length := by rw [hl]; exact size_data s
  have HL := Lib.hid (And.intro hl hsz)
  clear hM hl
  go_enter Tryz.func4, Tryz.ntmps4
  go_wp2_with fail
  refine HA.out.mono ?_
  rintro _ w1 ⟨rfl, hb1⟩
  have HB1 := Lib.hid hb1
  clear hb1
  by_cases h3 : 3000 < l.length
  · have i3 : (3000 : Int) < (s.size : Int) := by omega
    clear hsz
    go_wp2_with fail
    go_ret
    exact ⟨rfl, HB1.out⟩
  · have i3 : ¬ (3000 : Int) < (s.size : Int) := by omega
    have H3 := Lib.hid h3
    clear hsz h3
    go_wp2_with fail
    refine (pparse_any s l HL.out.1 w1 (HM.out.below HB1.out)).mono ?_
    rintro e2 w2 ⟨hr2, hb2⟩
    have HB2 := Lib.hid (below_then HB1.out hb2)
    have HB2' := Lib.hid hb2
    clear hb2
    have HQ := Lib.hid (lparse_any s l HL.out.1 (by have := H3.out; omega) w2 (HM.out.below HB2.out))
    rcases hp : Sc.parse Dy.parse l with ⟨p, c⟩ | ops
    · rw [hp] at hr2
      have he : e2 = .returned (.tuple #[.slice none 0 0, .int .i64 (p : Int), .int .i64 (c : Int)]) := hr2
      rw [he]
      have hq := HQ.out
      rw [hp] at hq
      have HQ := Lib.hid hq
      clear hq hr2 he hp
      go_wp2_with fail
      refine HQ.out.mono ?_
      rintro e3 w3 ⟨hr3, hb3⟩
      have he : e3 = .returned (.tuple #[.slice none 0 0, .int .i64 (p : Int), .int .i64 (c : Int)]) := hr3
      rw [he]
      have HB3 := Lib.hid (below_then HB2.out hb3)
      have HS := Lib.hid (same14 none none 0 0 [] [] w3 (.inl rfl) (.inl rfl) (fun e he => by cases he) (fun e he => by cases he) (by simp) rfl (fun e he => by cases he))
      clear hr3 he hb3
      go_wp2_with fail
      refine HS.out.mono ?_
      rintro _ w4 ⟨rfl, hb4⟩
      go_wp2_with fail
      go_ret
      exact ⟨rfl, below_then HB3.out hb4⟩
    · rw [hp] at hr2
      obtain ⟨v, vals, he, how, hv, hok⟩ : ∃ (v : Value) (vals : List (Sc.Op × Value × Value)), e2 = .returned (.tuple #[v, .int .i64 0, .int .i64 0]) ∧ w2.ownsRow w1.heap.size 48 8 v vals.length (vals.flatMap opE) ∧ vals.map (·.1) = ops ∧ ∀ x ∈ vals, okP w2 x := hr2
      rw [he]
      obtain ⟨_, p1, c1, rfl, hE1⟩ := els_ownG opE 8 opE0 (fun _ => rfl) (by omega) how
      have hbd := Sc.parse_bd hp
      have hq := HQ.out
      rw [hp] at hq
      have HQ := Lib.hid hq
      have HE1 := Lib.hid (And.intro hE1 (And.intro hv (And.intro hok hbd)))
      clear hq he hp how hE1 hv hok hbd
      go_wp2_with fail
      refine HQ.out.mono ?_
      rintro e3 w3 ⟨hr3, hb3⟩
      obtain ⟨v2, vals2, he, how, hv2, hok2⟩ : ∃ (v : Value) (vals : List (Sc.Op × Value × Value)), e3 = .returned (.tuple #[v, .int .i64 0, .int .i64 0]) ∧ w3.ownsRow w2.heap.size 48 8 v vals.length (vals.flatMap opE) ∧ vals.map (·.1) = ops ∧ ∀ x ∈ vals, okP w3 x := hr3
      rw [he]
      obtain ⟨_, p2, c2, rfl, hE2⟩ := els_ownG opE 8 opE0 (fun _ => rfl) (by omega) how
      have HB3 := Lib.hid (below_then HB2.out hb3)
      have h1 := HE1.out
      have hlen : vals.length ≤ 1000000 := by
        have := congrArg List.length h1.2.1
        rw [List.length_map] at this
        have := h1.2.2.2.2
        omega
      have HS := Lib.hid (same14 p1 p2 c1 c2 vals vals2 w3 (h1.1.below hb3) hE2 (fun e he => okP_only (h1.2.2.1 e he) (Only.of_below (S := fun _ => False) hb3) (fun _ _ h => h)) hok2 hlen (h1.2.1.trans hv2.symm) (fun e he => h1.2.2.2.1 e.1 (by rw [← h1.2.1]; exact List.mem_map_of_mem he)))
      clear he how hv2 hok2 hE2 hb3 h1 hlen
      go_wp2_with fail
      refine HS.out.mono ?_
      rintro _ w4 ⟨rfl, hb4⟩
      go_wp2_with fail
      go_ret
      exact ⟨rfl, below_then HB3.out hb4⟩
end Go.Proofs.YtbhjkddjgikaiaaGreatDoor
