/-
  Own texts, several in one (Money1, Str, MoneyT).
-/
import Derived.Lib.ParseIntB
import Derived.Lib.IndexMore
import Derived.Lib.ItoaNum
import Derived.Lib.IndexLaws
import Derived.Test.YtbhjkddjgikaiaaGreatDoorMrg1
import Derived.Shelf.Strconv.Itoa1
import Derived.Shelf.Strconv.Itoa2
import Derived.Shelf.Strconv.ParseIntPublic10
import Derived.Shelf.Strings.Cut
import Derived.Lib.ItoaMem
import Derived.Lib.AtoiErrMem
import Derived.Lib.AppendIntMem
import Derived.Lib.ItoaWalk
import Derived.Lib.Walk
import Derived.Lib.Slices
import Derived.BigCall
import Derived.BigGuard
import Derived.CellFam
import Derived.Test.YtbhjkddjgikaiaaGreatDoorMrg2
namespace Go.Proofs.YtbhjkddjgikaiaaGreatDoor
set_option linter.unusedVariables false
set_option linter.unusedSimpArgs false
namespace Mn

/-- two decimal digits -/
def two (c : Nat) : List UInt8 := [UInt8.ofNat (48 + c / 10), UInt8.ofNat (48 + c % 10)]
def sign (n : Int) : List UInt8 := if n < 0 then [45] else []
/-- an amount's text -/
def text (n : Int) : List UInt8 := sign n ++ (Lib.decDigits (n.natAbs / 100) ++ (46 :: two (n.natAbs % 100)))
/-- what a number that was read says of a text -/
def read (l : List UInt8) : Lib.NumEnd Int → Option Int
  | .ok v => if text v = l then some v else none
  | _ => none
/-- an amount's text, read: as the code does it -/
def parse (l : List UInt8) : Option Int :=
  if (Lib.cut l [46]).2.2 = true ∧ (Lib.cut l [46]).2.1.length = 2 then read l (Lib.parseIntB 64 ((Lib.cut l [46]).1 ++ (Lib.cut l [46]).2.1)) else none
def isDig (c : UInt8) : Bool := decide (48 ≤ c.toNat ∧ c.toNat ≤ 57)
def val : Nat → List UInt8 → Nat
  | a, [] => a
  | a, c :: r => val (a * 10 + (c.toNat - 48)) r
theorem val_append (l r : List UInt8) : ∀ a, val a (l ++ r) = val (val a l) r := by
  induction l with
  | nil => intro a; rfl
  | cons c l ih => intro a; exact ih _
theorem val_ge (l : List UInt8) : ∀ a, a ≤ val a l := by
  induction l with
  | nil => intro a; exact Nat.le_refl _
  | cons c l ih => intro a; exact Nat.le_trans (Nat.le_trans (Nat.le_mul_of_pos_right a (by omega)) (Nat.le_add_right _ _)) (ih (a * 10 + (c.toNat - 48)))
theorem digit_nat (k : Nat) (h : k < 10) : (UInt8.ofNat (48 + k)).toNat = 48 + k := by rw [UInt8.toNat_ofNat']; omega
theorem isDig_of (k : Nat) (h : k < 10) : isDig (UInt8.ofNat (48 + k)) = true := by unfold isDig; rw [digit_nat k h]; simp; omega
theorem val_dec (u : Nat) : val 0 (Lib.decDigits u) = u := by
  induction u using Nat.strongRecOn with
  | _ u ih =>
    by_cases h : u < 10
    · rw [Lib.decDigits_one h]; show 0 * 10 + ((UInt8.ofNat (48 + u)).toNat - 48) = u; rw [digit_nat u h]; omega
    · rw [Lib.decDigits, dif_neg h, val_append, ih (u / 10) (by omega)]
      show u / 10 * 10 + ((UInt8.ofNat (48 + u % 10)).toNat - 48) = u; rw [digit_nat _ (by omega)]; omega
theorem val_two (a c : Nat) (h : c < 100) : val a (two c) = a * 100 + c := by
  show (a * 10 + ((UInt8.ofNat (48 + c / 10)).toNat - 48)) * 10 + ((UInt8.ofNat (48 + c % 10)).toNat - 48) = a * 100 + c
  rw [digit_nat _ (by omega), digit_nat _ (by omega)]; omega
theorem dig_dec (u : Nat) : ∀ c ∈ Lib.decDigits u, isDig c = true := by
  induction u using Nat.strongRecOn with
  | _ u ih =>
    by_cases h : u < 10
    · rw [Lib.decDigits_one h]; intro c hc; rw [List.mem_singleton] at hc; subst hc; exact isDig_of u h
    · rw [Lib.decDigits, dif_neg h]; intro c hc
      rcases List.mem_append.1 hc with h1 | h1
      · exact ih (u / 10) (by omega) c h1
      · rw [List.mem_singleton] at h1; subst h1; exact isDig_of _ (by omega)
theorem dig_two (c : Nat) (h : c < 100) : ∀ x ∈ two c, isDig x = true := by
  intro x hx; unfold two at hx
  rcases List.mem_cons.1 hx with h1 | h1
  · subst h1; exact isDig_of _ (by omega)
  · rw [List.mem_singleton] at h1; subst h1; exact isDig_of _ (by omega)
theorem dec_ne (u : Nat) : Lib.decDigits u ≠ [] := by
  by_cases h : u < 10
  · rw [Lib.decDigits_one h]; simp
  · rw [Lib.decDigits, dif_neg h]; simp
theorem parseM (M : Nat) (hM : M ≤ 18446744073709551615) (l : List UInt8) : ∀ acc, (∀ c ∈ l, isDig c = true) → val acc l ≤ M → Lib.parseUintM M acc l = .ok (val acc l) := by
  induction l with
  | nil => intro acc _ _; rfl
  | cons c l ih =>
    intro acc hd hv
    have h1 := hd c (by simp)
    unfold isDig at h1
    have h2 : 48 ≤ c.toNat ∧ c.toNat ≤ 57 := by simpa using h1
    have hv' : val (acc * 10 + (c.toNat - 48)) l ≤ M := hv
    have hg := val_ge l (acc * 10 + (c.toNat - 48))
    unfold Lib.parseUintM
    rw [if_pos h2, if_neg (by omega), if_neg (by omega), ih _ (fun x hx => hd x (by simp [hx])) hv']
    rfl
theorem parse_digits (q c : Nat) (hc : c < 100) (h : q * 100 + c ≤ 18446744073709551615) : Lib.parseUintB 64 (Lib.decDigits q ++ two c) = .ok (q * 100 + c) := by
  unfold Lib.parseUintB
  have hne : Lib.decDigits q ++ two c ≠ [] := by simp [dec_ne]
  have hv : val 0 (Lib.decDigits q ++ two c) = q * 100 + c := by rw [val_append, val_dec, val_two _ _ hc]
  rw [if_neg hne, parseM _ (by decide) _ 0 (fun x hx => by
    rcases List.mem_append.1 hx with h1 | h1
    · exact dig_dec q x h1
    · exact dig_two c hc x h1) (by rw [hv]; simpa using h), hv]
theorem parseInt_text (n : Int) (h : -9223372036854775808 ≤ n ∧ n ≤ 9223372036854775807) : Lib.parseIntB 64 (sign n ++ Lib.decDigits (n.natAbs / 100) ++ two (n.natAbs % 100)) = .ok n := by
  have hp := parse_digits (n.natAbs / 100) (n.natAbs % 100) (by omega) (by omega)
  have hs : n.natAbs / 100 * 100 + n.natAbs % 100 = n.natAbs := by omega
  rw [hs] at hp
  by_cases hn : n < 0
  · unfold sign
    rw [if_pos hn]
    unfold Lib.parseIntB
    simp only [List.cons_append, List.nil_append, List.append_assoc]
    rw [show (45 : UInt8).toNat = 45 from rfl]
    simp only [or_true, if_true, hp]
    rw [if_neg (by simp), if_neg (by simp; omega)]
    congr 1; omega
  · unfold sign
    rw [if_neg hn]
    rcases hd : Lib.decDigits (n.natAbs / 100) with _ | ⟨c, r⟩
    · exact absurd hd (dec_ne _)
    · have hc := dig_dec (n.natAbs / 100) c (by rw [hd]; simp)
      unfold isDig at hc
      have hc2 : 48 ≤ c.toNat ∧ c.toNat ≤ 57 := by simpa using hc
      rw [hd] at hp
      unfold Lib.parseIntB
      simp only [List.cons_append, List.nil_append] at hp ⊢
      rw [if_neg (by omega), hp]
      have hneg : ¬ c.toNat = 45 := by omega
      simp only [hneg, not_false_eq_true, true_and, false_and, if_false]
      rw [if_neg (by simp; omega)]
      congr 1; omega
theorem cut_at (a b : List UInt8) (c : UInt8) (h : ∀ x ∈ a, x ≠ c) : Lib.cut (a ++ c :: b) [c] = (a, b, true) := by
  have hi : Lib.index (a ++ c :: b) [c] = (a.length : Int) := by
    refine Lib.index_first (i := a.length) (by simp) ?_ ?_
    · simp [Lib.occAt, List.isPrefixOf]
    · intro j hj
      unfold Lib.occAt
      rw [List.drop_append_of_le_length (by omega)]
      rcases hd : a.drop j with _ | ⟨x, r⟩
      · have := congrArg List.length hd; simp at this; omega
      · have hx : x ∈ a := List.mem_of_mem_drop (i := j) (by rw [hd]; simp)
        have := h x hx
        simp [List.isPrefixOf]
        exact fun e => this e.symm
  unfold Lib.cut
  rw [hi]
  simp
theorem cut_text (n : Int) : Lib.cut (text n) [46] = (sign n ++ Lib.decDigits (n.natAbs / 100), two (n.natAbs % 100), true) := by
  unfold text
  rw [← List.append_assoc]
  refine cut_at _ _ 46 ?_
  intro x hx
  rcases List.mem_append.1 hx with h1 | h1
  · unfold sign at h1; split at h1
    · simp at h1; subst h1; decide
    · cases h1
  · have := dig_dec _ x h1
    unfold isDig at this
    intro e; subst e; simp at this
theorem parse_text (n : Int) (h : -9223372036854775808 ≤ n ∧ n ≤ 9223372036854775807) : parse (text n) = some n := by
  unfold parse
  rw [cut_text]
  have hp := parseInt_text n h
  simp only
  rw [if_pos ⟨trivial, rfl⟩, hp]
  simp [read]
theorem parseInt_bd {l : List UInt8} {v : Int} (h : Lib.parseIntB 64 l = .ok v) : -9223372036854775808 ≤ v ∧ v ≤ 9223372036854775807 := by
  unfold Lib.parseIntB at h
  cases l with
  | nil => cases h
  | cons c r =>
    simp only at h
    generalize Lib.parseUintB 64 (if c.toNat = 43 ∨ c.toNat = 45 then r else c :: r) = p at h
    cases p with
    | ok u =>
      simp only at h
      split at h
      · cases h
      · split at h
        · cases h
        · rename_i h1 h2
          injection h with h
          by_cases hn : c.toNat = 45
          · rw [if_pos hn] at h
            have : ¬ 2 ^ (64 - 1) < u := fun x => h2 ⟨hn, x⟩
            omega
          · rw [if_neg hn] at h
            have : ¬ 2 ^ (64 - 1) ≤ u := fun x => h1 ⟨hn, x⟩
            omega
    | _ => cases h
theorem cut_len (l sep : List UInt8) : (Lib.cut l sep).1.length ≤ l.length ∧ (Lib.cut l sep).2.1.length ≤ l.length := by
  unfold Lib.cut
  split
  · simp; omega
  · simp
end Mn
end Go.Proofs.YtbhjkddjgikaiaaGreatDoor

namespace Go.Proofs.YtbhjkddjgikaiaaGreatDoor
open Go.RowKit Go.Sort
set_option linter.unusedVariables false
set_option linter.unusedSimpArgs false

theorem below_drewN0 {w : World} (n : Nat) : Below w.heap.size w (w.drewN n) := ⟨rfl, rfl, rfl, Nat.le_refl _, fun _ _ => rfl⟩
theorem cut_any (s sep : ByteArray) (w : World) (hG : Glb w) (hs : s.size < 4294967281) :
    Calls Tryz.prog 293 #[.string s, .string sep] w fun e w' => e = .returned (.tuple #[.string ⟨(Lib.cut s.data.toList sep.data.toList).1.toArray⟩, .string ⟨(Lib.cut s.data.toList sep.data.toList).2.1.toArray⟩, .bool (Lib.cut s.data.toList sep.data.toList).2.2]) ∧ Below w.heap.size w w' := by
  obtain ⟨m, hm⟩ := hG.maxlen
  refine (Any.strings_Cut { Tryz.laysM145 with } s sep m w hs hm).mono ?_
  rintro e w' ⟨rfl, n, rfl⟩
  exact ⟨rfl, below_drewN0 n⟩

theorem parseInt_ok (s : ByteArray) (v : Int) (w : World) (hG : Glb w) (hs : s.size ≤ 281474976710656) (h : Lib.parseIntB 64 s.data.toList = .ok v) :
    Calls Tryz.prog 294 #[.string s, .int .i64 10, .int .i64 64] w fun e w' => e = .returned (.tuple #[.int .i64 v, .nilIface]) ∧ Below w.heap.size w w' := by
  refine (Any.strconv_ParseInt_10_at64_ok Tryz.laysC174 s (by omega) v h w).mono ?_
  rintro e w' ⟨rfl, hw⟩
  refine ⟨rfl, ?_⟩
  rcases hw with rfl | ⟨t, rfl⟩
  · exact Below.refl _ _
  · exact Lib.bytesWorld_below w _ t
theorem parseInt_err (s : ByteArray) (w : World) (hG : Glb w) (hs : s.size ≤ 281474976710656) (h : ∀ v, Lib.parseIntB 64 s.data.toList ≠ .ok v) :
    Calls Tryz.prog 294 #[.string s, .int .i64 10, .int .i64 64] w fun e w' => (∃ n t x, e = .returned (.tuple #[.int .i64 n, .iface t x])) ∧ Below w.heap.size w w' := by
  rcases hp : Lib.parseIntB 64 s.data.toList with v | _ | _
  · exact absurd hp (h v)
  · obtain ⟨t, p, hv⟩ := hG.synt
    refine (Any.strconv_ParseInt_10_at64_syntax Tryz.laysC174 s (by omega) hp _ w (var_cell hv (by kernel_rfl) 0) (.inr ⟨t, p, rfl⟩)).mono ?_
    rintro e w' ⟨N, rfl, _, _, hb⟩
    exact ⟨⟨_, _, _, rfl⟩, hb⟩
  · obtain ⟨t, p, hv⟩ := hG.rang
    refine (Any.strconv_ParseInt_10_at64_range Tryz.laysC174 s (by omega) hp _ w (var_cell hv (by kernel_rfl) 0) (.inr ⟨t, p, rfl⟩)).mono ?_
    rintro e w' ⟨N, rfl, _, _, hb⟩
    exact ⟨⟨_, _, _, rfl⟩, hb⟩


set_option maxHeartbeats 6400000 in
set_option maxRecDepth 100000 in
theorem intFormatUint_any (u : Nat) (hu64 : u < 18446744073709551616) (w : World) (hG : Glb w) :
    Calls Tryz.prog 199 #[.int .u64 (u : Int), .int .i64 10] w fun e w' => e = .returned (.string ⟨(Lib.decDigits u).toArray⟩) ∧ Below w.heap.size w w' := by
  by_cases hs : u < 100
  · have hi : (u : Int) < 100 := by omega
    have hi0 : (0 : Int) ≤ (u : Int) := by omega
    go_enter Tryz.func199, Tryz.ntmps199
    go_wp2_with (go_at_call 156; refine (Any.internal_strconv_small Tryz.lays283 u hs _).mono ?_; rintro e w' ⟨rfl, rfl⟩)
    go_ret
    exact ⟨rfl, Below.refl _ _⟩
  · have hu1 : 1 ≤ u := by omega
    have htab := hG.pow
    have hnd20 : Lib.nDigits u ≤ 20 := by have := Lib.numDigits_eq u hu1 hu64; split at this <;> omega
    have hal : Tryz.prog.arrayLen 231 = 24 := by kernel_rfl
    have hel : Tryz.prog.elem 231 = 5 := by kernel_rfl
    have hsl1 : ∀ W, (Instr.sliceAt 231 (.pointer (some ⟨w.heap.size, 0, none⟩)) none (some (.int .i64 (Lib.nDigits u : Int))) none).run Tryz.prog W = .ok (.slice (some ⟨w.heap.size, 0, none⟩) (Lib.nDigits u) 24) W := fun W => by
      rw [run_sliceAt_array_h W 231 ⟨w.heap.size, 0, none⟩ (by rw [hal, hel]; exact Tryz.underlying231) .i64 (Lib.nDigits u : Int) (by omega) (by rw [hal]; omega)]
      go_simp
    have hH0 := Lib.holds_zero0 w 231 (Lib.nDigits u) (by omega)
    have hfmt := Any.internal_strconv_formatBase10 Tryz.lays285 w.heap.size 0 24 u (Array.replicate (Lib.nDigits u) 0) (w.alloc (.cells Lib.zeros24 231)) hH0 (by rw [Array.size_replicate]; exact Lib.lt_pow_nDigits u) hu64 (by rw [Array.size_replicate]; omega)
    rw [Array.size_replicate] at hfmt
    have HH0 := Lib.hid hH0
    have iu : (100 : Int) ≤ (u : Int) := by omega
    clear hH0 hal
    go_enter Tryz.func199, Tryz.ntmps199
    go_wp2_with (first | (go_at_call 157; refine (Any.internal_strconv_numDigits Tryz.laysM284 u hu1 hu64 _ (Lib.tabIs_alloc htab _)).mono ?_; rintro e w' ⟨rfl, rfl⟩))
    refine hfmt.mono ?_
    rintro e w' ⟨rfl, k, v', dk, rfl, hF⟩
    have hcv : (convert 22 9 (.slice (some ⟨w.heap.size, 0, none⟩) (Lib.nDigits u) 24)).run Tryz.prog ((putRow (fun (b : UInt8) => Value.int .u8 (b.toNat : Int)) (w.alloc (.cells Lib.zeros24 231)) w.heap.size 0 dk).drewN k) = .ok (.string ⟨(Lib.decDigits u).toArray⟩) ((putRow (fun (b : UInt8) => Value.int .u8 (b.toNat : Int)) (w.alloc (.cells Lib.zeros24 231)) w.heap.size 0 dk).drewN k) := by
      have h := run_convert_bytes_back (P := Tryz.prog) ((putRow (fun (b : UInt8) => Value.int .u8 (b.toNat : Int)) (w.alloc (.cells Lib.zeros24 231)) w.heap.size 0 dk).drewN k) 22 9 5 ⟨w.heap.size, 0, none⟩ 24 (Lib.decDigits u) Tryz.underlying22 Tryz.underlying5 Tryz.underlying9 (fun j hj => by
        rw [Lib.row_is_numeral hF j hj, Lib.add_plain, World.cell?_drewN]
        exact cell?_putRow (fun (b : UInt8) => Value.int .u8 (b.toNat : Int)) _ w.heap.size 0 _ dk HH0.out (by rw [hF.size, Array.size_replicate]) j (by rw [hF.size]; rw [Lib.decDigits_length] at hj; exact hj))
      rw [Lib.decDigits_length] at h
      exact h
    obtain ⟨os, eo⟩ := Lib.fin_at w (.cells Lib.zeros24 231) dk k 0
    have hBl : Below w.heap.size w ((putRow (fun (b : UInt8) => Value.int .u8 (b.toNat : Int)) (w.alloc (.cells Lib.zeros24 231)) w.heap.size 0 dk).drewN k) := by rw [eo]; exact Lib.below_grow w.heap.size w (Nat.le_refl _) k os
    clear eo HH0 hfmt htab hG
    generalize (putRow (fun (b : UInt8) => Value.int .u8 (b.toNat : Int)) (w.alloc (.cells Lib.zeros24 231)) w.heap.size 0 dk).drewN k = w2 at *
    go_wp2
    go_ret
    exact ⟨rfl, hBl⟩

set_option maxHeartbeats 400000 in
theorem formatUint_any (u : Nat) (hu64 : u < 18446744073709551616) (w : World) (hG : Glb w) :
    Calls Tryz.prog 160 #[.int .u64 (u : Int), .int .i64 10] w fun e w' => e = .returned (.string ⟨(Lib.decDigits u).toArray⟩) ∧ Below w.heap.size w w' := by
  go_enter Tryz.func160, Tryz.ntmps160
  go_wp2_with fail
  refine (intFormatUint_any u hu64 _ hG).mono ?_
  rintro e w' ⟨rfl, hb⟩
  go_wp2
  go_ret
  exact ⟨rfl, hb⟩
end Go.Proofs.YtbhjkddjgikaiaaGreatDoor

namespace Go.Proofs.YtbhjkddjgikaiaaGreatDoor
open Go.RowKit
set_option linter.unusedVariables false
set_option linter.unusedSimpArgs false

theorem size_nat (n : Int) (h : Wd.I64 n) (w : World) :
    Calls Tryz.prog 285 #[.int .i64 n] w fun e w' => e = .returned (.int .u64 (n.natAbs : Int)) ∧ w = w' := by
  have k := size_any n w h
  have e : Wd.abs n = (n.natAbs : Int) := by unfold Wd.abs; split <;> omega
  rwa [e] at k

theorem dec_len (u : Nat) (h : u < 18446744073709551616) : (Lib.decDigits u).length ≤ 20 := by
  rw [Lib.decDigits_length]
  by_cases h1 : 1 ≤ u
  · have := Lib.numDigits_eq u h1 h; split at this <;> omega
  · rw [Lib.nDigits_small (by omega)]; omega
theorem ret_str {a b : ByteArray} (h : a.data.toList = b.data.toList) : Ending.returned (.string a) = .returned (.string b) := by
  have : a = b := by
    cases a; cases b
    simp at h
    simp [h]
  rw [this]

set_option maxHeartbeats 1000000 in
theorem text_n1 (n : Int) (h : Wd.I64 n) (hn : n < 0) (hc : n.natAbs % 100 < 10) (w : World) (hG : Glb w) :
    Calls Tryz.prog 290 #[.int .i64 n] w fun e w' => e = .returned (.string ⟨(Mn.text n).toArray⟩) ∧ Below w.heap.size w w' := by
  have hm : n.natAbs ≤ 9223372036854775808 := by unfold Wd.I64 at h; omega
  have ht : Mn.text n = [45] ++ (Lib.decDigits (n.natAbs / 100) ++ (46 :: Mn.two (n.natAbs % 100))) := by unfold Mn.text Mn.sign; rw [if_pos hn]
  have hlen : (Lib.decDigits (n.natAbs / 100)).length ≤ 20 := dec_len _ (by omega)
  have sz := Lib.hid (size_nat n h)
  have hn' : n < 0 := by omega
  clear h hn
  generalize n.natAbs = m at *
  have hd := Lib.decDigits_one hc
  have h2 : Mn.two (m % 100) = [48, UInt8.ofNat (48 + m % 100)] := by unfold Mn.two; rw [show m % 100 / 10 = 0 by omega, show m % 100 % 10 = m % 100 by omega]; rfl
  have f1 := Lib.hid (fun w hG => hd ▸ formatUint_any (m % 100) (by omega) w hG)
  rw [h2] at ht
  generalize UInt8.ofNat (48 + m % 100) = x at *
  have f2 := Lib.hid (formatUint_any (m / 100) (by omega))
  clear hd h2
  generalize Lib.decDigits (m / 100) = D at *
  have HT := Lib.hid ht
  clear ht
  go_enter Tryz.func290, Tryz.ntmps290
  go_wp2_with fail
  refine (sz.out _).mono ?_
  rintro _ w' ⟨rfl, rfl⟩
  go_wp2_with fail
  rw [show ((m : Int) % 100) = ((m % 100 : Nat) : Int) by omega]
  generalize m % 100 = c at *
  refine (f1.out _ hG).mono ?_
  rintro _ w1 ⟨rfl, hb1⟩
  go_wp2_with fail
  rw [show ((m : Int) / 100) = ((m / 100 : Nat) : Int) by omega]
  refine (f2.out _ (hG.below hb1)).mono ?_
  rintro _ w2 ⟨rfl, hb2⟩
  go_wp2
  go_ret
  refine ⟨?_, below_then hb1 hb2⟩
  rw [HT.out]
  refine ret_str ?_
  simp

set_option maxHeartbeats 1000000 in
theorem text_n2 (n : Int) (h : Wd.I64 n) (hn : n < 0) (hc : ¬ n.natAbs % 100 < 10) (w : World) (hG : Glb w) :
    Calls Tryz.prog 290 #[.int .i64 n] w fun e w' => e = .returned (.string ⟨(Mn.text n).toArray⟩) ∧ Below w.heap.size w w' := by
  have hm : n.natAbs ≤ 9223372036854775808 := by unfold Wd.I64 at h; omega
  have ht : Mn.text n = [45] ++ (Lib.decDigits (n.natAbs / 100) ++ (46 :: Mn.two (n.natAbs % 100))) := by unfold Mn.text Mn.sign; rw [if_pos hn]
  have hlen : (Lib.decDigits (n.natAbs / 100)).length ≤ 20 := dec_len _ (by omega)
  have sz := Lib.hid (size_nat n h)
  have hn' : n < 0 := by omega
  clear h hn
  generalize n.natAbs = m at *
  have hd := Lib.decDigits_two hc (show m % 100 < 100 by omega)
  have h2 : Mn.two (m % 100) = [UInt8.ofNat (48 + m % 100 / 10), UInt8.ofNat (48 + m % 100 % 10)] := rfl
  have f1 := Lib.hid (fun w hG => hd ▸ formatUint_any (m % 100) (by omega) w hG)
  rw [h2] at ht
  generalize UInt8.ofNat (48 + m % 100 / 10) = x at *
  generalize UInt8.ofNat (48 + m % 100 % 10) = y at *
  have f2 := Lib.hid (formatUint_any (m / 100) (by omega))
  clear hd h2
  generalize Lib.decDigits (m / 100) = D at *
  have HT := Lib.hid ht
  clear ht
  go_enter Tryz.func290, Tryz.ntmps290
  go_wp2_with fail
  refine (sz.out _).mono ?_
  rintro _ w' ⟨rfl, rfl⟩
  go_wp2_with fail
  rw [show ((m : Int) % 100) = ((m % 100 : Nat) : Int) by omega]
  generalize m % 100 = c at *
  refine (f1.out _ hG).mono ?_
  rintro _ w1 ⟨rfl, hb1⟩
  go_wp2_with fail
  rw [show ((m : Int) / 100) = ((m / 100 : Nat) : Int) by omega]
  refine (f2.out _ (hG.below hb1)).mono ?_
  rintro _ w2 ⟨rfl, hb2⟩
  go_wp2
  go_ret
  refine ⟨?_, below_then hb1 hb2⟩
  rw [HT.out]
  refine ret_str ?_
  simp

set_option maxHeartbeats 1000000 in
theorem text_p1 (n : Int) (h : Wd.I64 n) (hn : ¬ n < 0) (hc : n.natAbs % 100 < 10) (w : World) (hG : Glb w) :
    Calls Tryz.prog 290 #[.int .i64 n] w fun e w' => e = .returned (.string ⟨(Mn.text n).toArray⟩) ∧ Below w.heap.size w w' := by
  have hm : n.natAbs ≤ 9223372036854775808 := by unfold Wd.I64 at h; omega
  have ht : Mn.text n = [] ++ (Lib.decDigits (n.natAbs / 100) ++ (46 :: Mn.two (n.natAbs % 100))) := by unfold Mn.text Mn.sign; rw [if_neg hn]
  have hlen : (Lib.decDigits (n.natAbs / 100)).length ≤ 20 := dec_len _ (by omega)
  have sz := Lib.hid (size_nat n h)
  have hn' : 0 ≤ n := by omega
  clear h hn
  generalize n.natAbs = m at *
  have hd := Lib.decDigits_one hc
  have h2 : Mn.two (m % 100) = [48, UInt8.ofNat (48 + m % 100)] := by unfold Mn.two; rw [show m % 100 / 10 = 0 by omega, show m % 100 % 10 = m % 100 by omega]; rfl
  have f1 := Lib.hid (fun w hG => hd ▸ formatUint_any (m % 100) (by omega) w hG)
  rw [h2] at ht
  generalize UInt8.ofNat (48 + m % 100) = x at *
  have f2 := Lib.hid (formatUint_any (m / 100) (by omega))
  clear hd h2
  generalize Lib.decDigits (m / 100) = D at *
  have HT := Lib.hid ht
  clear ht
  go_enter Tryz.func290, Tryz.ntmps290
  go_wp2_with fail
  refine (sz.out _).mono ?_
  rintro _ w' ⟨rfl, rfl⟩
  go_wp2_with fail
  rw [show ((m : Int) % 100) = ((m % 100 : Nat) : Int) by omega]
  generalize m % 100 = c at *
  refine (f1.out _ hG).mono ?_
  rintro _ w1 ⟨rfl, hb1⟩
  go_wp2_with fail
  rw [show ((m : Int) / 100) = ((m / 100 : Nat) : Int) by omega]
  refine (f2.out _ (hG.below hb1)).mono ?_
  rintro _ w2 ⟨rfl, hb2⟩
  go_wp2
  go_ret
  refine ⟨?_, below_then hb1 hb2⟩
  rw [HT.out]
  refine ret_str ?_
  simp

set_option maxHeartbeats 1000000 in
theorem text_p2 (n : Int) (h : Wd.I64 n) (hn : ¬ n < 0) (hc : ¬ n.natAbs % 100 < 10) (w : World) (hG : Glb w) :
    Calls Tryz.prog 290 #[.int .i64 n] w fun e w' => e = .returned (.string ⟨(Mn.text n).toArray⟩) ∧ Below w.heap.size w w' := by
  have hm : n.natAbs ≤ 9223372036854775808 := by unfold Wd.I64 at h; omega
  have ht : Mn.text n = [] ++ (Lib.decDigits (n.natAbs / 100) ++ (46 :: Mn.two (n.natAbs % 100))) := by unfold Mn.text Mn.sign; rw [if_neg hn]
  have hlen : (Lib.decDigits (n.natAbs / 100)).length ≤ 20 := dec_len _ (by omega)
  have sz := Lib.hid (size_nat n h)
  have hn' : 0 ≤ n := by omega
  clear h hn
  generalize n.natAbs = m at *
  have hd := Lib.decDigits_two hc (show m % 100 < 100 by omega)
  have h2 : Mn.two (m % 100) = [UInt8.ofNat (48 + m % 100 / 10), UInt8.ofNat (48 + m % 100 % 10)] := rfl
  have f1 := Lib.hid (fun w hG => hd ▸ formatUint_any (m % 100) (by omega) w hG)
  rw [h2] at ht
  generalize UInt8.ofNat (48 + m % 100 / 10) = x at *
  generalize UInt8.ofNat (48 + m % 100 % 10) = y at *
  have f2 := Lib.hid (formatUint_any (m / 100) (by omega))
  clear hd h2
  generalize Lib.decDigits (m / 100) = D at *
  have HT := Lib.hid ht
  clear ht
  go_enter Tryz.func290, Tryz.ntmps290
  go_wp2_with fail
  refine (sz.out _).mono ?_
  rintro _ w' ⟨rfl, rfl⟩
  go_wp2_with fail
  rw [show ((m : Int) % 100) = ((m % 100 : Nat) : Int) by omega]
  generalize m % 100 = c at *
  refine (f1.out _ hG).mono ?_
  rintro _ w1 ⟨rfl, hb1⟩
  go_wp2_with fail
  rw [show ((m : Int) / 100) = ((m / 100 : Nat) : Int) by omega]
  refine (f2.out _ (hG.below hb1)).mono ?_
  rintro _ w2 ⟨rfl, hb2⟩
  go_wp2
  go_ret
  refine ⟨?_, below_then hb1 hb2⟩
  rw [HT.out]
  refine ret_str ?_
  simp

theorem text_any (n : Int) (h : Wd.I64 n) (w : World) (hG : Glb w) :
    Calls Tryz.prog 290 #[.int .i64 n] w fun e w' => e = .returned (.string ⟨(Mn.text n).toArray⟩) ∧ Below w.heap.size w w' := by
  by_cases hn : n < 0 <;> by_cases hc : n.natAbs % 100 < 10
  · exact text_n1 n h hn hc w hG
  · exact text_n2 n h hn hc w hG
  · exact text_p1 n h hn hc w hG
  · exact text_p2 n h hn hc w hG
end Go.Proofs.YtbhjkddjgikaiaaGreatDoor
