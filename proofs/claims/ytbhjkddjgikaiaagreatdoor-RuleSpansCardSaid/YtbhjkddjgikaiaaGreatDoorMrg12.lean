/-
  Own texts, several in one (Date, Text, JCheck).
-/
import Derived.Test.YtbhjkddjgikaiaaGreatDoorMrg11
import Derived.Shelf.Strings.Repeat
import Derived.Lib.ItoaLen
import Derived.Maps.RangeRun
namespace Go.Proofs.YtbhjkddjgikaiaaGreatDoor
open Go.RowKit
set_option linter.unusedVariables false
set_option linter.unusedSimpArgs false

namespace Dy
/-- the month, and the day less one, of what is left of a year from a month on -/
def mon (y : Int) : Nat → Nat → Int → Nat × Int
  | 0, m, d => (m, d)
  | f + 1, m, d => if long y m ≤ d then mon y f (m + 1) (d - long y m) else (m, d)
/-- how many days are from a month on -/
def rem (y : Int) : Nat → Int
  | 1 => (if leap y = true then 366 else 365)
  | 2 => (if leap y = true then 335 else 334)
  | 3 => 306 | 4 => 275 | 5 => 245 | 6 => 214 | 7 => 184 | 8 => 153 | 9 => 122 | 10 => 92 | 11 => 61 | 12 => 31
  | _ => 0
theorem rem_step (y : Int) (m : Nat) (h1 : 1 ≤ m) (h2 : m ≤ 12) : rem y m = long y m + rem y (m + 1) := by
  have h : m = 1 ∨ m = 2 ∨ m = 3 ∨ m = 4 ∨ m = 5 ∨ m = 6 ∨ m = 7 ∨ m = 8 ∨ m = 9 ∨ m = 10 ∨ m = 11 ∨ m = 12 := by omega
  rcases h with rfl | rfl | rfl | rfl | rfl | rfl | rfl | rfl | rfl | rfl | rfl | rfl
  all_goals (unfold rem long; cases leap y <;> simp [months, rem])
theorem long_pos (y : Int) (m : Nat) (h1 : 1 ≤ m) (h2 : m ≤ 12) : 28 ≤ long y m ∧ long y m ≤ 31 := by
  have h : m = 1 ∨ m = 2 ∨ m = 3 ∨ m = 4 ∨ m = 5 ∨ m = 6 ∨ m = 7 ∨ m = 8 ∨ m = 9 ∨ m = 10 ∨ m = 11 ∨ m = 12 := by omega
  rcases h with rfl | rfl | rfl | rfl | rfl | rfl | rfl | rfl | rfl | rfl | rfl | rfl
  all_goals (unfold long; cases leap y <;> simp [months])
theorem ahead_lt (a b : Int) (h : a < b) : ahead a < ahead b := by
  unfold ahead
  omega
theorem ahead_year (y : Int) : ahead (y + 1) - ahead y = rem y 1 := by
  unfold ahead rem leap
  by_cases h4 : y % 4 = 0 <;> by_cases h100 : y % 100 = 0 <;> by_cases h400 : y % 400 = 0 <;> simp [h4, h100, h400] <;> omega
/-- the year of a day -/
theorem year_ex (n : Int) (h : -719162 ≤ n ∧ n < 2932897) : ∃ y : Int, 1 ≤ y ∧ y ≤ 9999 ∧ ahead y ≤ n ∧ n < ahead (y + 1) := by
  have go : ∀ (f : Nat) (y : Int), 1 ≤ y → y + f = 10000 → ahead y ≤ n → ∃ y : Int, 1 ≤ y ∧ y ≤ 9999 ∧ ahead y ≤ n ∧ n < ahead (y + 1) := fun f => by
    induction f with
    | zero =>
      intro y h1 h2 h3
      have : y = 10000 := by omega
      rw [this] at h3
      have e : ahead 10000 = 2932897 := by decide
      omega
    | succ f ih =>
      intro y h1 h2 h3
      by_cases c : n < ahead (y + 1)
      · exact ⟨y, h1, by omega, h3, c⟩
      · exact ih (y + 1) (by omega) (by push_cast at h2; omega) (by omega)
  exact go 9999 1 (by omega) (by omega) (by rw [show ahead 1 = -719162 by decide]; exact h.1)
end Dy
theorem tdiv_bd (n : Int) (h : -719162 ≤ n ∧ n < 2932897) : -1965 ≤ Int.tdiv n 366 ∧ Int.tdiv n 366 ≤ 8014 := by
  by_cases c : 0 ≤ n
  · rw [Int.tdiv_eq_ediv_of_nonneg c]
    omega
  · have e : Int.tdiv n 366 = -(Int.tdiv (-n) 366) := by rw [Int.neg_tdiv]; omega
    rw [e, Int.tdiv_eq_ediv_of_nonneg (by omega)]
    omega
set_option maxHeartbeats 2000000 in
set_option maxRecDepth 100000 in
theorem date_any (n y : Int) (hy : 1 ≤ y ∧ y ≤ 9999) (h1 : Dy.ahead y ≤ n) (h2 : n < Dy.ahead (y + 1)) (w : World) (hM : Glb5 w) :
    Calls Tryz.prog 104 #[.int .i32 n] w fun e w' => e = .returned (.tuple #[.int .i64 y, .int .i64 ((Dy.mon y 12 1 (n - Dy.ahead y)).1 : Int), .int .i64 ((Dy.mon y 12 1 (n - Dy.ahead y)).2 + 1)]) ∧ w' = w := by
  have mono : ∀ a b : Int, a ≤ b → Dy.ahead a ≤ Dy.ahead b := fun a b h => by
    by_cases c : a = b
    · rw [c]; exact Int.le_refl _
    · exact Int.le_of_lt (Dy.ahead_lt a b (by omega))
  have hn : -719162 ≤ n ∧ n < 2932897 := by
    have e1 := mono 1 y hy.1
    have e2 := mono (y + 1) 10000 (by omega)
    rw [show Dy.ahead 1 = -719162 by decide] at e1
    rw [show Dy.ahead 10000 = 2932897 by decide] at e2
    omega
  have A1 := Lib.hid (ahead_any 1 (by omega))
  rw [show Dy.ahead 1 = -719162 by decide] at A1
  have A2 := Lib.hid (ahead_any 10000 (by omega))
  rw [show Dy.ahead 10000 = 2932897 by decide] at A2
  have AZ := Lib.hid fun (z : Int) (h : 1 ≤ z ∧ z ≤ 10000) => ahead_any z h
  have bd : ∀ z : Int, 1 ≤ z → z ≤ 10000 → -719162 ≤ Dy.ahead z ∧ Dy.ahead z ≤ 2932897 := fun z a b => by
    have e1 := mono 1 z a
    have e2 := mono z 10000 b
    rw [show Dy.ahead 1 = -719162 by decide] at e1
    rw [show Dy.ahead 10000 = 2932897 by decide] at e2
    omega
  have HY := Lib.hid (And.intro hy (And.intro h1 h2))
  have HMO := Lib.hid mono
  have HBD := Lib.hid bd
  have HM := Lib.hid hM
  have hq := tdiv_bd n hn
  obtain ⟨q, eq⟩ : ∃ q, q = Int.tdiv n 366 := ⟨_, rfl⟩
  rw [← eq] at hq
  have eq2 : Int.tdiv n 366 = q := eq.symm
  have HQ := Lib.hid hq
  have HN := Lib.hid hn
  obtain ⟨r, hr⟩ : ∃ r, r = Dy.mon y 12 1 (n - Dy.ahead y) := ⟨_, rfl⟩
  rw [← hr]
  have HR := Lib.hid hr
  have n1 : ¬ n < -719162 := by omega
  have n2 : ¬ 2932897 ≤ n := by omega
  have e0 : IntKind.i64.wrap n = n := by rw [IntKind.wrap_i64]; omega
  have e3 : IntKind.i64.wrap (1970 + q) = 1970 + q := by rw [IntKind.wrap_i64]; omega
  have e4 : IntKind.i64.wrap q = q := by rw [IntKind.wrap_i64]; omega
  clear hM hy h1 h2 mono bd hq eq hr hn
  go_enter Tryz.func104, Tryz.ntmps104
  go_wp2_with fail
  refine (A1.out _).mono ?_
  rintro _ w1 ⟨rfl, rfl⟩
  go_wp2_with fail
  refine (A2.out _).mono ?_
  rintro _ w1 ⟨rfl, rfl⟩
  go_wp2_with fail
  have HW := Lib.hid (Eq.refl w1)
  go_loopw [2] (fun iv wr => ∃ z : Int, 1 ≤ z ∧ z ≤ 9999 ∧ iv = .int .i64 z ∧ wr = w1) (fun iv _ => (intOf iv).toNat)
  case atStart => exact ⟨1970 + q, by have := HQ.out; omega, by have := HQ.out; omega, rfl, rfl⟩
  case round =>
    obtain ⟨z, z1, z2, rfl, rfl⟩ := hrel
    by_cases hz : n < Dy.ahead z
    · have hyz : HY.out.1.1 = HY.out.1.1 := rfl
      have hz1 : 1 < z := by
        by_cases c : 1 < z
        · exact c
        · have e : z = 1 := by omega
          rw [e, show Dy.ahead 1 = -719162 by decide] at hz
          have := HN.out
          omega
      have HA := Lib.hid (AZ.out z ⟨z1, by omega⟩)
      have HZ := Lib.hid (And.intro z2 hz1)
      have ez : IntKind.i64.wrap (z - 1) = z - 1 := by rw [IntKind.wrap_i64]; omega
      generalize Dy.ahead z = az at *
      clear z1 z2 hz1 hyz
      go_wp2_with fail
      refine (HA.out _).mono ?_
      rintro _ w3 ⟨rfl, rfl⟩
      go_wp2_with fail
      have := HZ.out
      exact ⟨⟨z - 1, by omega, by omega, rfl, by first | rfl | trivial⟩, by simp [intOf]; omega⟩
    · have hzy : z ≤ y := by
        by_cases c : z ≤ y
        · exact c
        · have h1 := HMO.out (y + 1) z (by omega)
          have h2 := HY.out.2.2
          omega
      have HA := Lib.hid (AZ.out z ⟨z1, by omega⟩)
      have HZ0 := Lib.hid (And.intro z1 hzy)
      obtain ⟨az, haz⟩ : ∃ a, a = Dy.ahead z := ⟨_, rfl⟩
      rw [← haz] at hz HA
      clear z1 z2 hzy haz
      go_wp2_with fail
      refine (HA.out _).mono ?_
      rintro _ w3 ⟨rfl, rfl⟩
      go_wp2_with fail
      clear HA hz
      go_loopw [2] (fun iv wr => ∃ z : Int, 1 ≤ z ∧ z ≤ y ∧ iv = .int .i64 z ∧ wr = w3) (fun iv _ => (9999 - intOf iv).toNat)
      case atStart => exact ⟨z, HZ0.out.1, HZ0.out.2, rfl, rfl⟩
      case round =>
        obtain ⟨z, z1, z2, rfl, rfl⟩ := hrel
        have hy9 : y ≤ 9999 := HY.out.1.2
        have HA := Lib.hid (AZ.out (z + 1) ⟨by omega, by omega⟩)
        have ez : IntKind.i64.wrap (z + 1) = z + 1 := by rw [IntKind.wrap_i64]; omega
        by_cases hz : Dy.ahead (z + 1) ≤ n
        · have hzy : z + 1 ≤ y := by
            by_cases c : z + 1 ≤ y
            · exact c
            · have e : z = y := by omega
              rw [e] at hz
              have := HY.out.2.2
              omega
          have HZ := Lib.hid (And.intro z1 hzy)
          generalize Dy.ahead (z + 1) = az at *
          clear z1 z2 hzy
          go_wp2_with fail
          refine (HA.out _).mono ?_
          rintro _ w4 ⟨rfl, rfl⟩
          go_wp2_with fail
          have := HZ.out
          exact ⟨⟨z + 1, by omega, by omega, rfl, by first | rfl | trivial⟩, by simp [intOf]; omega⟩
        · have hzy : z = y := by
            by_cases c : z = y
            · exact c
            · have h1 := HMO.out (z + 1) y (by omega)
              have h2 := HY.out.2.1
              omega
          subst hzy
          have HAy := Lib.hid (AZ.out z ⟨z1, by omega⟩)
          obtain ⟨az, haz⟩ : ∃ a, a = Dy.ahead (z + 1) := ⟨_, rfl⟩
          rw [← haz] at hz HA
          obtain ⟨ay, hay⟩ : ∃ a, a = Dy.ahead z := ⟨_, rfl⟩
          rw [← hay] at HAy
          have hb := HBD.out z z1 (by omega)
          rw [← hay] at hb
          have HAYE := Lib.hid hay
          have ed : IntKind.i64.wrap (n - ay) = n - ay := by have := HN.out; rw [IntKind.wrap_i64]; omega
          have HZ1 := Lib.hid (And.intro z1 z2)
          have hd0 : 0 ≤ n - ay := by rw [hay]; have := HY.out.2.1; omega
          have hd1 : n - ay < Dy.rem z 1 := by rw [hay, ← Dy.ahead_year]; have := HY.out.2.2; omega
          have HD := Lib.hid (And.intro hd0 hd1)
          clear z1 z2 haz hay hb hd0 hd1 hy9
          go_wp2_with fail
          refine (HA.out _).mono ?_
          rintro _ w4 ⟨rfl, rfl⟩
          go_wp2_with fail
          refine (HAy.out _).mono ?_
          rintro _ w5 ⟨rfl, rfl⟩
          clear HA hz HAy
          go_wp2_with fail
          have LG := Lib.hid fun (m : Nat) (a : 1 ≤ m) (b : m ≤ 12) => long_any z m ⟨HZ1.out.1, by have := HY.out.1; omega⟩ a b w5 HM.out
          go_loopw [3, 4] (fun mv dv wr => ∃ (f m : Nat) (d : Int), mv = .int .i64 (m : Int) ∧ dv = .int .i64 d ∧ Dy.mon z f m d = r ∧ f + m = 13 ∧ 1 ≤ m ∧ m ≤ 12 ∧ 0 ≤ d ∧ d < Dy.rem z m ∧ wr = w5) (fun mv _ _ => (13 - intOf mv).toNat)
          case atStart => exact ⟨12, 1, n - ay, rfl, rfl, by rw [HAYE.out, HR.out], rfl, by omega, by omega, HD.out.1, HD.out.2, rfl⟩
          case round =>
            obtain ⟨f, m, d, rfl, rfl, hmon, hfm, hm1, hm2, hd0, hd1, rfl⟩ := hrel
            have HL := Lib.hid (LG.out m hm1 hm2)
            have hlp := Dy.long_pos z m hm1 hm2
            have hst := Dy.rem_step z m hm1 hm2
            obtain ⟨f', rfl⟩ : ∃ f', f = f' + 1 := ⟨f - 1, by omega⟩
            have HMON := Lib.hid hmon
            have hdb : d < 367 := by
              have h1 : Dy.rem z m ≤ 366 := by
                have h : m = 1 ∨ m = 2 ∨ m = 3 ∨ m = 4 ∨ m = 5 ∨ m = 6 ∨ m = 7 ∨ m = 8 ∨ m = 9 ∨ m = 10 ∨ m = 11 ∨ m = 12 := by omega
                rcases h with rfl | rfl | rfl | rfl | rfl | rfl | rfl | rfl | rfl | rfl | rfl | rfl
                all_goals (unfold Dy.rem; cases Dy.leap z <;> simp)
              omega
            by_cases hc : Dy.long z m ≤ d
            · have hm12 : m < 12 := by
                by_cases c : m < 12
                · exact c
                · have e : m = 12 := by omega
                  rw [e] at hc hd1
                  have e1 : Dy.rem z 12 = 31 := rfl
                  have e2 : Dy.long z 12 = 31 := by unfold Dy.long; simp [Dy.months]
                  omega
              have hmon2 : Dy.mon z f' (m + 1) (d - Dy.long z m) = r := by
                rw [← hmon]
                show _ = if Dy.long z m ≤ d then _ else _
                rw [if_pos hc]
              have HX := Lib.hid (And.intro hmon2 (And.intro hfm (And.intro hm12 (And.intro hc (And.intro hd1 hst)))))
              obtain ⟨lg, hlg⟩ : ∃ a, a = Dy.long z m := ⟨_, rfl⟩
              rw [← hlg] at HL hc hlp
              have HLG := Lib.hid hlg
              have HLP := Lib.hid hlp
              have HD0 := Lib.hid hd0
              have e1 : IntKind.i64.wrap (d - lg) = d - lg := by rw [IntKind.wrap_i64]; omega
              have e2 : IntKind.i64.wrap ((m : Int) + 1) = ((m + 1 : Nat) : Int) := by rw [IntKind.wrap_i64]; omega
              clear hmon hmon2 hfm hm1 hm2 hd0 hd1 hst hlp hlg hdb hm12
              go_wp2_with fail
              refine HL.out.mono ?_
              rintro _ w6 ⟨rfl, rfl⟩
              go_wp2_with fail
              refine HL.out.mono ?_
              rintro _ w7 ⟨rfl, rfl⟩
              go_wp2_with fail
              have hX := HX.out
              rw [← HLG.out] at hX
              exact ⟨⟨f', m + 1, d - lg, by push_cast; rfl, rfl, hX.1, by omega, by omega, by omega, by omega, by omega, by first | rfl | trivial⟩, by simp [intOf]; omega⟩
            · have hr2 : r = (m, d) := by
                rw [← hmon]
                show (if Dy.long z m ≤ d then _ else _) = _
                rw [if_neg hc]
              have HR2 := Lib.hid hr2
              obtain ⟨lg, hlg⟩ : ∃ a, a = Dy.long z m := ⟨_, rfl⟩
              rw [← hlg] at HL hc
              have e1 : IntKind.i64.wrap (d + 1) = d + 1 := by rw [IntKind.wrap_i64]; omega
              clear hmon hr2 hfm hm1 hm2 hd0 hd1 hst hlp hlg hdb
              go_wp2_with fail
              refine HL.out.mono ?_
              rintro _ w6 ⟨rfl, rfl⟩
              go_wp2_with fail
              refine bodyPost_ret (v := .tuple #[.int .i64 z, .int .i64 (m : Int), .int .i64 (d + 1)]) (by simp [results, Tryz.results104, go_sem]) rfl ⟨by rw [HR2.out], by first | rfl | trivial⟩
end Go.Proofs.YtbhjkddjgikaiaaGreatDoor

namespace Go.Proofs.YtbhjkddjgikaiaaGreatDoor
open Go.RowKit
set_option linter.unusedVariables false
set_option linter.unusedSimpArgs false

theorem repeat_any (s : ByteArray) (c : Nat) (w : World) (hc : c ≤ 1000000) (hs : s.size ≤ 100000) :
    Calls Tryz.prog 22 #[.string s, .int .i64 (c : Int)] w fun e w' => e = .returned (.string ⟨(Lib.repeatL s.data.toList c).toArray⟩) ∧ Below w.heap.size w w' :=
  Any.strings_Repeat Tryz.lays105 Tryz.Builder_Extra_105 s c w (by omega) (Nat.le_trans (Nat.mul_le_mul hs hc) (by omega))
theorem repeatL_len : ∀ (c : Nat), (Lib.repeatL [48] c).length = c
  | 0 => rfl
  | c + 1 => by show (48 :: Lib.repeatL [48] c).length = c + 1; rw [List.length_cons, repeatL_len c]
/-- a number's digits with noughts ahead -/
def padL (n : Int) (size : Nat) : List UInt8 := Lib.repeatL [48] (size - (Lib.itoa n).length) ++ Lib.itoa n
set_option maxHeartbeats 1000000 in
theorem padded_any (n : Int) (size : Nat) (h : Wd.I64 n) (hs : size ≤ 100) (hl : (Lib.itoa n).length ≤ 100) (w : World) (hG : Glb w) :
    Calls Tryz.prog 105 #[.int .i64 n, .int .i64 (size : Int)] w fun e w' => e = .returned (.string ⟨(padL n size).toArray⟩) ∧ Below w.heap.size w w' := by
  have I := Lib.hid (itoa_any n h)
  unfold padL
  generalize Lib.itoa n = t at *
  have HG := Lib.hid hG
  obtain ⟨c, hc⟩ : ∃ c, c = size - t.length := ⟨_, rfl⟩
  rw [← hc]
  have hcb : c ≤ 100 := by omega
  have RP := Lib.hid fun W => repeat_any ⟨#[48]⟩ c W (by omega) (by show 1 ≤ 100000; omega)
  have hm : max ((size : Int) - (t.length : Int)) 0 = (c : Int) := by omega
  have ew : IntKind.i64.wrap ((size : Int) - (t.length : Int)) = (size : Int) - (t.length : Int) := by rw [IntKind.wrap_i64]; omega
  clear hc hG
  go_enter Tryz.func105, Tryz.ntmps105
  go_wp2_with fail
  refine (I.out _ HG.out).mono ?_
  rintro _ w1 ⟨rfl, hb⟩
  go_wp2_with fail
  refine (RP.out w1).mono ?_
  rintro _ w2 ⟨rfl, hb2⟩
  have HBB := Lib.hid (below_then hb hb2)
  clear hb hb2 RP I
  show _
  simp only [show (⟨#[48]⟩ : ByteArray).data.toList = [48] from rfl]
  have hzl : (Lib.repeatL [48] c).length = c := repeatL_len c
  obtain ⟨z, hz⟩ : ∃ z, z = Lib.repeatL [48] c := ⟨_, rfl⟩
  rw [← hz] at hzl
  rw [← hz]
  have HZ := Lib.hid hz
  clear hz
  have hzt : ¬ 9223372036854775807 < z.length + t.length := by omega
  go_wp2
  go_ret
  refine ⟨?_, HBB.out⟩
  have e : (⟨(z ++ t).toArray⟩ : ByteArray) = ⟨z.toArray⟩ ++ ⟨t.toArray⟩ := by
    apply ByteArray.ext
    simp
  show Ending.returned (.string (⟨z.toArray⟩ ++ ⟨t.toArray⟩)) = Ending.returned (.string ⟨(Lib.repeatL [48] c ++ t).toArray⟩)
  rw [← HZ.out, e]
/-- a day's text -/
def dayT (y m d : Int) : List UInt8 := padL y 4 ++ [45] ++ padL m 2 ++ [45] ++ padL d 2
theorem itoa_len (n : Int) (h : 0 ≤ n ∧ n ≤ 9999) : (Lib.itoa n).length ≤ 100 := Nat.le_trans (Lib.itoa_length_le n (by omega) (by omega)) (by omega)
theorem mon_bd (y : Int) : ∀ (f m : Nat) (d : Int), f + m = 13 → 1 ≤ m → m ≤ 12 → 0 ≤ d → d < Dy.rem y m → 1 ≤ (Dy.mon y f m d).1 ∧ (Dy.mon y f m d).1 ≤ 12 ∧ 0 ≤ (Dy.mon y f m d).2 ∧ (Dy.mon y f m d).2 < Dy.long y (Dy.mon y f m d).1
  | 0, m, d, h, h1, h2, _, _ => by omega
  | f + 1, m, d, h, h1, h2, h3, h4 => by
    unfold Dy.mon
    by_cases c : Dy.long y m ≤ d
    · rw [if_pos c]
      have hst := Dy.rem_step y m h1 h2
      have hm : m < 12 := by
        by_cases c2 : m < 12
        · exact c2
        · have e : m = 12 := by omega
          rw [e] at c h4
          have e1 : Dy.rem y 12 = 31 := rfl
          have e2 : Dy.long y 12 = 31 := by unfold Dy.long; simp [Dy.months]
          omega
      exact mon_bd y f (m + 1) (d - Dy.long y m) (by omega) (by omega) (by omega) (by omega) (by omega)
    · rw [if_neg c]
      exact ⟨h1, h2, h3, by show d < Dy.long y m; omega⟩
theorem padL_len (n : Int) (size : Nat) (hs : size ≤ 100) (hl : (Lib.itoa n).length ≤ 100) : (padL n size).length ≤ 300 := by
  unfold padL
  rw [List.length_append, repeatL_len]
  omega
/-- month and day of a day of a year -/
def Dy.md (n y : Int) : Nat × Int := Dy.mon y 12 1 (n - Dy.ahead y)
set_option maxHeartbeats 1000000 in
theorem dtext_any (n y : Int) (hy : 1 ≤ y ∧ y ≤ 9999) (h1 : Dy.ahead y ≤ n) (h2 : n < Dy.ahead (y + 1)) (w : World) (hM : Glb5 w) :
    Calls Tryz.prog 63 #[.int .i32 n] w fun e w' => e = .returned (.string ⟨(dayT y ((Dy.md n y).1 : Int) ((Dy.md n y).2 + 1)).toArray⟩) ∧ Below w.heap.size w w' := by
  have D := Lib.hid (date_any n y hy h1 h2 w hM)
  have hb := mon_bd y 12 1 (n - Dy.ahead y) rfl (by omega) (by omega) (by omega) (by rw [← Dy.ahead_year]; omega)
  have hD : Dy.mon y 12 1 (n - Dy.ahead y) = Dy.md n y := rfl
  rw [hD] at D hb
  generalize Dy.md n y = md at *
  obtain ⟨m, d⟩ := md
  have hlp := Dy.long_pos y m hb.1 hb.2.1
  have hb2 : 0 ≤ d ∧ d < 31 := ⟨hb.2.2.1, by have := hb.2.2.2; dsimp only at *; omega⟩
  have hb1 : 1 ≤ m ∧ m ≤ 12 := ⟨hb.1, hb.2.1⟩
  have ly := itoa_len y ⟨by omega, by omega⟩
  have lm := itoa_len (m : Int) ⟨by omega, by omega⟩
  have ld := itoa_len (d + 1) ⟨by omega, by omega⟩
  have PY := Lib.hid (padded_any y 4 (by unfold Wd.I64; omega) (by omega) ly)
  have PM := Lib.hid (padded_any (m : Int) 2 (by unfold Wd.I64; omega) (by omega) lm)
  have PD := Lib.hid (padded_any (d + 1) 2 (by unfold Wd.I64; omega) (by omega) ld)
  have ky := padL_len y 4 (by omega) ly
  have km := padL_len (m : Int) 2 (by omega) lm
  have kd := padL_len (d + 1) 2 (by omega) ld
  unfold dayT
  obtain ⟨a, ha⟩ : ∃ a, a = padL y 4 := ⟨_, rfl⟩
  obtain ⟨b, hbb⟩ : ∃ b, b = padL (m : Int) 2 := ⟨_, rfl⟩
  obtain ⟨c, hc⟩ : ∃ c, c = padL (d + 1) 2 := ⟨_, rfl⟩
  rw [← ha] at PY ky
  rw [← hbb] at PM km
  rw [← hc] at PD kd
  dsimp only at D
  have HMM := Lib.hid hM
  have HEQ := Lib.hid (And.intro ha (And.intro hbb hc))
  have y0 : (y == 0) = false := by rw [beq_eq_false_iff_ne]; omega
  clear hy h1 h2 hb hb1 hb2 hlp ly lm ld ha hbb hc hM hD
  go_enter Tryz.func63, Tryz.ntmps63
  go_wp2_with fail
  refine D.out.mono ?_
  rintro _ w1 ⟨rfl, rfl⟩
  go_wp2_with fail
  refine (PY.out _ HMM.out.glb).mono ?_
  rintro _ w2 ⟨rfl, hb2⟩
  have HB2 := Lib.hid hb2
  clear hb2
  go_wp2_with fail
  refine (PM.out _ (HMM.out.glb.below HB2.out)).mono ?_
  rintro _ w3 ⟨rfl, hb3⟩
  have HB3 := Lib.hid (below_then HB2.out hb3)
  clear hb3
  go_wp2_with fail
  refine (PD.out _ (HMM.out.glb.below HB3.out)).mono ?_
  rintro _ w4 ⟨rfl, hb4⟩
  have HB4 := Lib.hid (below_then HB3.out hb4)
  clear hb4
  go_wp2
  go_ret
  refine ⟨?_, HB4.out⟩
  show Ending.returned (.string (⟨a.toArray⟩ ++ ⟨#[45]⟩ ++ ⟨b.toArray⟩ ++ ⟨#[45]⟩ ++ ⟨c.toArray⟩)) = Ending.returned (.string ⟨(padL y 4 ++ [45] ++ padL (m : Int) 2 ++ [45] ++ padL (d + 1) 2).toArray⟩)
  rw [← HEQ.out.1, ← HEQ.out.2.1, ← HEQ.out.2.2]
  have e : (⟨(a ++ [45] ++ b ++ [45] ++ c).toArray⟩ : ByteArray) = ⟨a.toArray⟩ ++ ⟨#[45]⟩ ++ ⟨b.toArray⟩ ++ ⟨#[45]⟩ ++ ⟨c.toArray⟩ := by
    apply ByteArray.ext
    simp
  rw [e]
theorem date_out (n : Int) (h : n < -719162 ∨ 2932897 ≤ n) (w : World) :
    Calls Tryz.prog 104 #[.int .i32 n] w fun e w' => e = .returned (.tuple #[.int .i64 0, .int .i64 0, .int .i64 0]) ∧ w' = w := by
  have A1 := Lib.hid (ahead_any 1 (by omega))
  rw [show Dy.ahead 1 = -719162 by decide] at A1
  have A2 := Lib.hid (ahead_any 10000 (by omega))
  rw [show Dy.ahead 10000 = 2932897 by decide] at A2
  by_cases c : n < -719162
  · clear h
    go_enter Tryz.func104, Tryz.ntmps104
    go_wp2_with fail
    refine (A1.out _).mono ?_
    rintro _ w1 ⟨rfl, rfl⟩
    go_wp2_with fail
    exact bodyPost_ret (v := .tuple #[.int .i64 0, .int .i64 0, .int .i64 0]) (by simp [results, Tryz.results104, go_sem]) rfl ⟨rfl, by first | rfl | trivial⟩
  · have c2 : 2932897 ≤ n := by omega
    clear h
    go_enter Tryz.func104, Tryz.ntmps104
    go_wp2_with fail
    refine (A1.out _).mono ?_
    rintro _ w1 ⟨rfl, rfl⟩
    go_wp2_with fail
    refine (A2.out _).mono ?_
    rintro _ w1 ⟨rfl, rfl⟩
    go_wp2_with fail
    exact bodyPost_ret (v := .tuple #[.int .i64 0, .int .i64 0, .int .i64 0]) (by simp [results, Tryz.results104, go_sem]) rfl ⟨rfl, by first | rfl | trivial⟩
theorem dtext_out (n : Int) (h : n < -719162 ∨ 2932897 ≤ n) (w : World) :
    Calls Tryz.prog 63 #[.int .i32 n] w fun e w' => e = .returned (.string ByteArray.empty) ∧ w' = w := by
  have D := Lib.hid (date_out n h w)
  clear h
  go_enter Tryz.func63, Tryz.ntmps63
  go_wp2_with fail
  refine D.out.mono ?_
  rintro _ w1 ⟨rfl, rfl⟩
  go_wp2
  go_ret
  exact ⟨rfl, rfl⟩
end Go.Proofs.YtbhjkddjgikaiaaGreatDoor

namespace Go.Proofs.YtbhjkddjgikaiaaGreatDoor
open Go.RowKit
open Go.Maps (Keyed)
open Go.ChangeMaps (setBlock)
set_option linter.unusedVariables false
set_option linter.unusedSimpArgs false

def badAm (x : Ln) : Prop := x.am = 0 ∨ x.am = -9223372036854775808
instance (x : Ln) : Decidable (badAm x) := by unfold badAm; infer_instance
/-- what journal.Check answers -/
def jcode (d : Int) (l : List Ln) : Int :=
  if d < -719162 ∨ 2932897 ≤ d then 13 else if l.length < 1 ∨ 60 < l.length then 2 else if ∃ x ∈ l, badAm x then 5 else if ∃ x ∈ l, tsum (l.map Ln.kv) x.ent ≠ 0 then 14 else 0
theorem dayT_ne (y m d : Int) : (⟨(dayT y m d).toArray⟩ : ByteArray).toList.isEmpty = false := by
  rw [Go.ByteArray.toList_eq]
  unfold dayT
  simp
/-- a day has a text just if it is in these years -/
theorem text_cases (d : Int) (w : World) (hM : Glb5 w) : ∃ s : ByteArray, (Calls Tryz.prog 63 #[.int .i32 d] w fun e w' => e = .returned (.string s) ∧ Below w.heap.size w w') ∧ s.toList.isEmpty = decide (d < -719162 ∨ 2932897 ≤ d) := by
  by_cases c : d < -719162 ∨ 2932897 ≤ d
  · refine ⟨⟨#[]⟩, (dtext_out d c w).mono ?_, by rw [decide_eq_true c, Go.ByteArray.toList_eq]; rfl⟩
    rintro _ w' ⟨rfl, rfl⟩
    exact ⟨rfl, Below.refl _ _⟩
  · obtain ⟨y, h1, h2, h3, h4⟩ := Dy.year_ex d (by omega)
    exact ⟨_, dtext_any d y ⟨h1, h2⟩ h3 h4 w hM, by rw [decide_eq_false c, dayT_ne]⟩
theorem tsum_bd (s : List (Nat × Int)) (c : Nat) (h : ∀ x ∈ s, Wd.I64 x.2) : -(9223372036854775808 * (s.length : Int)) ≤ tsum s c ∧ tsum s c ≤ 9223372036854775808 * (s.length : Int) := by
  induction s with
  | nil => simp [tsum]
  | cons x s ih =>
    have h1 := ih (fun y hy => h y (List.mem_cons_of_mem _ hy))
    have h2 := h x (List.mem_cons_self ..)
    unfold Wd.I64 at h2
    have e : tsum (x :: s) c = tsum s c + if x.1 = c then x.2 else 0 := by
      unfold tsum
      by_cases hx : x.1 = c
      · simp [hx, List.filter_cons, Int.add_comm]
      · simp [hx, List.filter_cons]
    rw [e, List.length_cons]
    push_cast
    split <;> omega
theorem wide_zero (v : Int) (hv : -9223372036854775808000 ≤ v ∧ v ≤ 9223372036854775808000) : (Wd.hi v = 0 ∧ Wd.lo v = 0) ↔ v = 0 := by
  constructor
  · rintro ⟨h1, h2⟩
    unfold Wd.hi wrap64 at h1
    unfold Wd.lo at h2
    omega
  · rintro rfl
    exact ⟨by unfold Wd.hi wrap64; omega, by unfold Wd.lo; omega⟩
set_option maxHeartbeats 4000000 in
set_option maxRecDepth 100000 in
theorem jcheck_any (d : Int) (a : Option Addr) (cap : Nat) (l : List Ln) (w : World) (hM : Glb5 w) (hl : l.length ≤ 1000) (hok : ∀ x ∈ l, x.ok) (hE : ElsAt ln 4 ln0 w a l) :
    Calls Tryz.prog 249 #[.agg #[.int .i32 d, .slice a l.length cap]] w fun e w' => e = .returned (.int .i64 (jcode d l)) ∧ Below w.heap.size w w' := by
  have HB1 := Lib.hid (below_alloc (Below.refl _ w) (.cells #[.int .i32 d, .slice a l.length cap] 88))
  have R := Row.new w #[.int .i32 d, .slice a l.length cap] 88
  have HE := Lib.hid hE
  have HOK := Lib.hid hok
  have HL := Lib.hid hl
  have HM := Lib.hid hM
  obtain ⟨code, hcode⟩ : ∃ c, c = jcode d l := ⟨_, rfl⟩
  rw [← hcode]
  have HCO := Lib.hid hcode
  clear hE hok hl hM hcode
  go_enter Tryz.func249, Tryz.ntmps249
  go_wp2_with fail
  generalize w.alloc (.cells #[.int .i32 d, .slice a l.length cap] 88) = w1 at *
  obtain ⟨g1, hg1⟩ : ∃ g, g = w.heap.size := ⟨_, rfl⟩
  rw [← hg1] at R
  rw [← hg1]
  clear hg1
  obtain ⟨s, hT, hs⟩ := text_cases d w1 (HM.out.below HB1.out)
  refine hT.mono ?_
  rintro _ w2 ⟨rfl, hb2⟩
  have HB2 := Lib.hid (below_then HB1.out hb2)
  have R2 := R.below hb2
  clear hT hb2 R
  by_cases c1 : d < -719162 ∨ 2932897 ≤ d
  · have HC13 : Hid (code = 13) := Lib.hid (by rw [HCO.out]; unfold jcode; rw [if_pos c1])
    rw [decide_eq_true c1] at hs
    clear c1
    go_wp2_with fail
    go_ret
    exact ⟨by rw [HC13.out]; rfl, HB2.out⟩
  · rw [decide_eq_false c1] at hs
    have HC1 := Lib.hid c1
    have d1 : w2.cell? ⟨g1, 1, none⟩ = some (.slice a l.length cap) := R2.cell 1
    have d0 : w2.cell? ⟨g1, 0, none⟩ = some (.int .i32 d) := R2.cell 0
    clear c1
    by_cases c2 : l.length < 1 ∨ 60 < l.length
    · have HC2 := Lib.hid c2
      have hc : Hid (code = 2) := Lib.hid (by rw [HCO.out]; unfold jcode; rw [if_neg HC1.out, if_pos c2])
      by_cases c3 : l.length < 1
      · have f1 : (l.length : Int) < 1 := by omega
        clear c2 c3
        go_wp2_with fail
        go_ret
        exact ⟨by rw [hc.out]; rfl, HB2.out⟩
      · have f1 : ¬ (l.length : Int) < 1 := by omega
        have f2 : (60 : Int) < (l.length : Int) := by omega
        clear c2 c3
        go_wp2_with fail
        go_ret
        exact ⟨by rw [hc.out]; rfl, HB2.out⟩
    · have HC2 := Lib.hid c2
      have f1 : ¬ (l.length : Int) < 1 := by omega
      have f2 : ¬ (60 : Int) < (l.length : Int) := by omega
      clear c2
      have HR2 := Lib.hid R2
      have hk2 : (0 : Int) ≤ (l.length : Int) := by omega
      go_wp2_with fail
      clear d0 d1 R2
      go_loopw [24] (fun i wr => ∃ k : Nat, k ≤ l.length ∧ i = .int .i64 k ∧ (∀ j, j < k → ¬ badAm (l.getD j ln0)) ∧ Below w2.heap.size w2 wr) (fun i _ => l.length - (intOf i).toNat)
      case atStart => exact ⟨0, by omega, rfl, fun j hj => by omega, Below.refl _ _⟩
      case round =>
        obtain ⟨k, hk, rfl, hno, BB⟩ := hrel
        have HBB := Lib.hid BB
        have HNO := Lib.hid hno
        clear BB hno
        by_cases hlt : k < l.length
        · have hk1 : (0 : Int) ≤ (k : Int) := by omega
          have hk2 : (k : Int) < (l.length : Int) := by omega
          obtain ⟨bl, off, rfl, hcells⟩ : ∃ bl off, a = some ⟨bl, off, none⟩ ∧ ∀ i, i < l.length → w.rangeAt bl (off + i * 4) (ln (l.getD i ln0)) := by
            rcases HE.out with h | h
            · exact absurd hlt (by rw [h]; simp)
            · exact h
          have hx := hcells k hlt
          have hmem := getD_mem (d := ln0) hlt
          obtain ⟨x, hgx⟩ : ∃ x, x = l.getD k ln0 := ⟨_, rfl⟩
          rw [← hgx] at hx hmem
          have HX := Lib.hid (And.intro hgx hmem)
          have RX := range_below (range_below hx HB2.out) HBB.out
          have c0 : wr.cell? ⟨bl, off + k * 4, none⟩ = some (.int .u32 (x.acc : Int)) := RX 0 _ rfl
          have c1 : wr.cell? ⟨bl, off + k * 4 + 1, none⟩ = some (.int .u16 (x.ent : Int)) := RX 1 _ rfl
          have c2 : wr.cell? ⟨bl, off + k * 4 + 2, none⟩ = some (.int .u16 (x.cnt : Int)) := RX 2 _ rfl
          have c3 : wr.cell? ⟨bl, off + k * 4 + 3, none⟩ = some (.int .i64 x.am) := RX 3 _ rfl
          have HB4 := Lib.hid (below_then HBB.out (below_alloc (Below.refl _ wr) (.cells #[.int .u32 (x.acc : Int), .int .u16 (x.ent : Int), .int .u16 (x.cnt : Int), .int .i64 x.am] 207)))
          clear hcells hx hgx hmem RX
          by_cases hb : badAm x
          · have hc : Hid (code = 5) := Lib.hid (by rw [HCO.out]; unfold jcode; rw [if_neg HC1.out, if_neg HC2.out, if_pos ⟨x, HX.out.2, hb⟩])
            have HB := Lib.hid hb
            clear hb
            by_cases h0 : x.am = 0
            · have e0 : (x.am == 0) = true := by rw [beq_iff_eq]; exact h0
              clear h0
              go_wp2_with fail
              go_ret
              exact ⟨by rw [hc.out]; rfl, below_then HB2.out HB4.out⟩
            · have e0 : (x.am == 0) = false := by rw [beq_eq_false_iff_ne]; exact h0
              have e1 : (x.am == -9223372036854775808) = true := by rw [beq_iff_eq]; exact HB.out.resolve_left h0
              clear h0
              go_wp2_with fail
              go_ret
              exact ⟨by rw [hc.out]; rfl, below_then HB2.out HB4.out⟩
          · have HB := Lib.hid hb
            have e0 : (x.am == 0) = false := by rw [beq_eq_false_iff_ne]; exact fun e => hb (.inl e)
            have e1 : (x.am == -9223372036854775808) = false := by rw [beq_eq_false_iff_ne]; exact fun e => hb (.inr e)
            have ev : IntKind.i64.wrap ((k : Int) + 1) = ((k + 1 : Nat) : Int) := by have := HL.out; rw [IntKind.wrap_i64]; omega
            clear hb
            go_wp2_with fail
            refine ⟨⟨k + 1, by omega, rfl, fun j hj => ?_, HB4.out⟩, by simp [intOf]; omega⟩
            by_cases e : j = k
            · rw [e, ← HX.out.1]; exact HB.out
            · exact HNO.out j (by omega)
        · obtain rfl : k = l.length := by omega
          have hk0 : ¬ ((l.length : Int) < (l.length : Int)) := by omega
          have R3 := HR2.out.below HBB.out
          have d0 : wr.cell? ⟨g1, 0, none⟩ = some (.int .i32 d) := R3.cell 0
          have d1 : wr.cell? ⟨g1, 1, none⟩ = some (.slice a l.length cap) := R3.cell 1
          have HNB : Hid (¬ ∃ x ∈ l, badAm x) := Lib.hid (by
            rintro ⟨x, hx, hb⟩
            obtain ⟨j, hj, e⟩ := List.getElem_of_mem hx
            refine HNO.out j hj ?_
            rw [List.getD_eq_getElem?_getD, List.getElem?_eq_getElem hj, e]
            exact hb)
          have HBR := Lib.hid (below_then HB2.out HBB.out)
          have JS := Lib.hid (jsums_any d a cap l wr HL.out HOK.out (HE.out.below HBR.out))
          clear R3
          go_wp2_with fail
          refine JS.out.mono ?_
          rintro _ w3 ⟨b, rfl, hbw, hM3, hb3⟩
          have HB3 := Lib.hid (below_then HBR.out hb3)
          clear JS d0 d1 hb3
          obtain ⟨es, clock, hes, F, hsz, H1, H2⟩ := hM3
          have hbl : b < w3.heap.size := by
            by_cases c : b < w3.heap.size
            · exact c
            · rw [Array.getElem?_eq_none (by omega)] at hes; cases hes
          have hrg := run_range_map w3 313 34 329 b es clock Tryz.underlying313 hes
          have hb1 : (w3.alloc (.mapIter (some b) clock #[] clock)).heap[b]? = some (.map es clock) := by rw [heap_alloc_old _ _ hbl]; exact hes
          have hr1 : (w3.alloc (.mapIter (some b) clock #[] clock)).heap[w3.heap.size]? = some (.mapIter (some b) clock #[] clock) := heap_alloc_new w3 _
          have HF := Lib.hid F
          have HH := Lib.hid H1
          have H2H := Lib.hid H2
          have HBM := Lib.hid hb1
          have HRI := Lib.hid hr1
          have HB5 := Lib.hid (below_alloc HB3.out (.mapIter (some b) clock #[] clock))
          clear F H1 H2 hes hb1 hr1 hsz
          go_wp2_with fail
          generalize w3.alloc (.mapIter (some b) clock #[] clock) = w4 at *
          obtain ⟨r, hrr⟩ : ∃ r, r = w3.heap.size := ⟨_, rfl⟩
          rw [← hrr] at HRI
          rw [← hrr]
          have hbr : b ≠ r := by omega
          have hrw : w.heap.size ≤ r := by rw [hrr]; exact HB3.out.size
          have HBRW := Lib.hid (And.intro hbr hrw)
          clear hrr hrg hbl hbw hbr hrw
          go_loopw [40] (fun v wr => ∃ (seen : Array Nat) (c0 : Nat), wr.heap[r]? = some (.mapIter (some b) clock seen c0) ∧ clock ≤ c0 ∧ wr.heap[b]? = some (.map es clock) ∧ (∀ x ∈ es.toList, seen.contains x.born = true → ∀ v, x.val = wvalT v → Wd.hi v = 0 ∧ Wd.lo v = 0) ∧ Below w.heap.size w wr) (fun _ wr => (leftOf es (wr.iterSeen r)).size)
          case atStart => exact ⟨#[], clock, HRI.out, Nat.le_refl _, HBM.out, fun x _ h => by simp at h, HB5.out⟩
          case round =>
            obtain ⟨seen, c0, hr, hc0, hbm, hz, BB⟩ := hrel
            have HZ := Lib.hid hz
            have HBB2 := Lib.hid BB
            clear hz BB
            have hbd : ∀ c : Nat, -9223372036854775808000 ≤ tsum (l.map Ln.kv) c ∧ tsum (l.map Ln.kv) c ≤ 9223372036854775808000 := fun c => by
              have h1 := tsum_bd (l.map Ln.kv) c (fun y hy => by obtain ⟨x, hx, rfl⟩ := List.mem_map.1 hy; exact (HOK.out x hx).2)
              rw [List.length_map] at h1
              have := HL.out
              omega
            have HBD := Lib.hid hbd
            clear hbd
            rcases run_next_at (P := Tryz.prog) wr 0 r b clock c0 seen es clock hr hbm HF.out.stamped.1 hc0 with ⟨h0, hnext⟩ | ⟨x, hx, w6, hw6, hnext⟩
            · have hall := all_seen es seen h0
              have hc : Hid (code = 0) := Lib.hid (by
                rw [HCO.out]
                unfold jcode
                rw [if_neg HC1.out, if_neg HC2.out, if_neg HNB.out, if_neg]
                rintro ⟨y, hy, hne⟩
                have hm : y.ent ∈ (l.map Ln.kv).map (·.1) := List.mem_map.2 ⟨Ln.kv y, List.mem_map.2 ⟨y, hy, rfl⟩, rfl⟩
                obtain ⟨x, hx, _, hv⟩ := H2H.out y.ent (tsum (l.map Ln.kv) y.ent) (by unfold tG; rw [if_pos hm])
                exact hne ((wide_zero _ (HBD.out y.ent)).1 (HZ.out x hx (hall x hx) _ hv)))
              clear hall h0 hr hbm
              go_wp2_with fail
              go_ret
              exact ⟨by rw [hc.out]; rfl, HBB2.out⟩
            · obtain ⟨hxe, hxs⟩ := mem_left hx
              obtain ⟨c, cv, hck, hcv, hcg⟩ := HH.out x hxe
              have hlt : r < wr.heap.size := by
                by_cases c : r < wr.heap.size
                · exact c
                · rw [Array.getElem?_eq_none (by omega)] at hr; cases hr
              have h2r : w6.heap = wr.heap := by rcases hw6 with rfl | rfl <;> rfl
              have h2b : Below w.heap.size w w6 := by rcases hw6 with rfl | rfl; exact HBB2.out; exact below_dr HBB2.out
              have hr3 : (setBlock w6 r (.mapIter (some b) clock (seen.push x.born) clock)).heap[r]? = some (.mapIter (some b) clock (seen.push x.born) clock) := by
                simp [setBlock, h2r, hlt]
              have hoth : ∀ i, i ≠ r → (setBlock w6 r (.mapIter (some b) clock (seen.push x.born) clock)).heap[i]? = wr.heap[i]? := fun i hi => by
                simp [setBlock, h2r, Array.getElem?_setIfInBounds, Ne.symm hi]
              have hb3 : (setBlock w6 r (.mapIter (some b) clock (seen.push x.born) clock)).heap[b]? = some (.map es clock) := (hoth b HBRW.out.1).trans hbm
              have hB3 : Below w.heap.size w (setBlock w6 r (.mapIter (some b) clock (seen.push x.born) clock)) := ⟨h2b.os, h2b.tape, h2b.output, by simp [setBlock]; exact h2b.size, fun i hi => by rw [hoth i (by have := HBRW.out.2; omega), ← h2r]; exact h2b.block i hi⟩
              have hent := run_entry_at (P := Tryz.prog) _ r b clock seen es clock x hr3 hb3 hxe HF.out.stamped.2.1
              have hsh := left_shrinks es seen x hx
              have HIS := Lib.hid (show wr.iterSeen r = seen by unfold World.iterSeen; rw [hr])
              generalize setBlock w6 r (.mapIter (some b) clock (seen.push x.born) clock) = w7 at *
              rw [hcv] at hent
              unfold wvalT at hent
              have HR7 := Lib.hid hr3
              have HB7 := Lib.hid hb3
              have HBL7 := Lib.hid hB3
              have HCV := Lib.hid (And.intro hcv (And.intro hcg hck))
              have HXE := Lib.hid hxe
              have HSH := Lib.hid hsh
              have hr7 : r < w7.heap.size := by
                by_cases c : r < w7.heap.size
                · exact c
                · rw [Array.getElem?_eq_none (by omega)] at hr3; cases hr3
              have hb7 : b < w7.heap.size := by
                by_cases c : b < w7.heap.size
                · exact c
                · rw [Array.getElem?_eq_none (by omega)] at hb3; cases hb3
              have HLT := Lib.hid (And.intro hr7 hb7)
              clear hw6 h2r h2b hoth hlt hr hbm hr3 hb3 hB3 hxe hxs hsh hck hcv hcg hr7 hb7
              obtain ⟨hh, hhh⟩ : ∃ a, a = Wd.hi cv := ⟨_, rfl⟩
              obtain ⟨ll, hll⟩ : ∃ a, a = Wd.lo cv := ⟨_, rfl⟩
              rw [← hhh, ← hll] at hent
              have HHL := Lib.hid (And.intro hhh hll)
              clear hhh hll
              go_wp2_with fail
              · rename_i q1 q2
                have hb2 := below_alloc (Below.refl _ w7) (.cells #[.int .i64 hh, .int .u64 ll] 329)
                rw [q1, q2] at hb2
                refine ⟨⟨seen.push x.born, clock, (hb2.block r HLT.out.1).trans HR7.out, Nat.le_refl _, (hb2.block b HLT.out.2).trans HB7.out, fun y hy hse v hv => ?_, below_then HBL7.out hb2⟩, ?_⟩
                · rw [contains_push, Bool.or_eq_true] at hse
                  rcases hse with hse | hse
                  · exact HZ.out y hy hse v hv
                  · have e := born_inj HF.out.stamped.2.1 hy HXE.out (beq_iff_eq.1 hse)
                    subst e
                    have h2 := hv.symm.trans HCV.out.1
                    unfold wvalT at h2
                    injection h2 with h2
                    simp at h2
                    rw [h2.1, h2.2, ← HHL.out.1, ← HHL.out.2]
                    exact ⟨q1, q2⟩
                · have e2 : (w7.alloc (.cells #[.int .i64 0, .int .u64 0] 329)).iterSeen r = seen.push x.born := by
                    unfold World.iterSeen
                    rw [hb2.block r HLT.out.1, HR7.out]
                  rw [e2, HIS.out]
                  exact HSH.out
              all_goals
                rename_i q1
                have hc : code = 14 := by
                  have hm := (tG_some (l.map Ln.kv) c).1 ⟨cv, HCV.out.2.1⟩
                  have hv : cv = tsum (l.map Ln.kv) c := by
                    have h := HCV.out.2.1
                    unfold tG at h
                    rw [if_pos hm] at h
                    exact (Option.some.inj h).symm
                  obtain ⟨kv, hkv, hkc⟩ := List.mem_map.1 hm
                  obtain ⟨y, hy, rfl⟩ := List.mem_map.1 hkv
                  have hex : ∃ x ∈ l, tsum (l.map Ln.kv) x.ent ≠ 0 := ⟨y, hy, fun e => by
                    have hkc : y.ent = c := hkc
                    rw [hkc, ← hv] at e
                    have h0 := (wide_zero cv (by rw [hv]; exact HBD.out c)).2 e
                    first
                      | exact q1 (HHL.out.1.trans h0.1)
                      | exact q1 (HHL.out.2.trans h0.2)⟩
                  rw [HCO.out]
                  unfold jcode
                  rw [if_neg HC1.out, if_neg HC2.out, if_neg HNB.out, if_pos hex]
                go_ret
                exact ⟨by rw [hc]; rfl, below_then HBL7.out (below_alloc (Below.refl _ w7) _)⟩
end Go.Proofs.YtbhjkddjgikaiaaGreatDoor
