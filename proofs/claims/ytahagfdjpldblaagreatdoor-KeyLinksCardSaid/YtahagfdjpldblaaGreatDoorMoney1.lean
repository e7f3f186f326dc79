/-
  Plain facts on amounts' texts: how they are written and read. No program here.
-/
import Derived.Lib.ParseIntB
import Derived.Lib.IndexMore
import Derived.Lib.ItoaNum
import Derived.Lib.IndexLaws
namespace Go.Proofs.YtahagfdjpldblaaGreatDoor
set_option linter.unusedVariables false
set_option linter.unusedSimpArgs false
namespace Mn

/-- two decimal digits -/
def two (c : Nat) : List UInt8 := [UInt8.ofNat (48 + c / 10), UInt8.ofNat (48 + c % 10)]
def sign (n : Int) : List UInt8 := if n < 0 then [45] else []
/-- an amount's text -/
def text (n : Int) : List UInt8 := sign n ++ (Lib.decDigits (n.natAbs / 100) ++ (46 :: two (n.natAbs % 100)))
/-- what a number that was read says of a text -/
def read (l : List UInt8) : Lib.NumEnd Int → Option Int
  | .ok v => if text v = l then some v else none
  | _ => none
/-- an amount's text, read: as the code does it -/
def parse (l : List UInt8) : Option Int :=
  if (Lib.cut l [46]).2.2 = true ∧ (Lib.cut l [46]).2.1.length = 2 then read l (Lib.parseIntB 64 ((Lib.cut l [46]).1 ++ (Lib.cut l [46]).2.1)) else none
theorem parse_some {l : List UInt8} {v : Int} (h : parse l = some v) : text v = l := by
  unfold parse read at h
  split at h
  · split at h
    · split at h
      · rename_i e; injection h with h; rw [← h]; exact e
      · cases h
    · cases h
  · cases h

def isDig (c : UInt8) : Bool := decide (48 ≤ c.toNat ∧ c.toNat ≤ 57)
def val : Nat → List UInt8 → Nat
  | a, [] => a
  | a, c :: r => val (a * 10 + (c.toNat - 48)) r
theorem val_append (l r : List UInt8) : ∀ a, val a (l ++ r) = val (val a l) r := by
  induction l with
  | nil => intro a; rfl
  | cons c l ih => intro a; exact ih _
theorem val_ge (l : List UInt8) : ∀ a, a ≤ val a l := by
  induction l with
  | nil => intro a; exact Nat.le_refl _
  | cons c l ih => intro a; exact Nat.le_trans (Nat.le_trans (Nat.le_mul_of_pos_right a (by omega)) (Nat.le_add_right _ _)) (ih (a * 10 + (c.toNat - 48)))
theorem digit_nat (k : Nat) (h : k < 10) : (UInt8.ofNat (48 + k)).toNat = 48 + k := by rw [UInt8.toNat_ofNat']; omega
theorem isDig_of (k : Nat) (h : k < 10) : isDig (UInt8.ofNat (48 + k)) = true := by unfold isDig; rw [digit_nat k h]; simp; omega
theorem val_dec (u : Nat) : val 0 (Lib.decDigits u) = u := by
  induction u using Nat.strongRecOn with
  | _ u ih =>
    by_cases h : u < 10
    · rw [Lib.decDigits_one h]; show 0 * 10 + ((UInt8.ofNat (48 + u)).toNat - 48) = u; rw [digit_nat u h]; omega
    · rw [Lib.decDigits, dif_neg h, val_append, ih (u / 10) (by omega)]
      show u / 10 * 10 + ((UInt8.ofNat (48 + u % 10)).toNat - 48) = u; rw [digit_nat _ (by omega)]; omega
theorem val_two (a c : Nat) (h : c < 100) : val a (two c) = a * 100 + c := by
  show (a * 10 + ((UInt8.ofNat (48 + c / 10)).toNat - 48)) * 10 + ((UInt8.ofNat (48 + c % 10)).toNat - 48) = a * 100 + c
  rw [digit_nat _ (by omega), digit_nat _ (by omega)]; omega
theorem dig_dec (u : Nat) : ∀ c ∈ Lib.decDigits u, isDig c = true := by
  induction u using Nat.strongRecOn with
  | _ u ih =>
    by_cases h : u < 10
    · rw [Lib.decDigits_one h]; intro c hc; rw [List.mem_singleton] at hc; subst hc; exact isDig_of u h
    · rw [Lib.decDigits, dif_neg h]; intro c hc
      rcases List.mem_append.1 hc with h1 | h1
      · exact ih (u / 10) (by omega) c h1
      · rw [List.mem_singleton] at h1; subst h1; exact isDig_of _ (by omega)
theorem dig_two (c : Nat) (h : c < 100) : ∀ x ∈ two c, isDig x = true := by
  intro x hx; unfold two at hx
  rcases List.mem_cons.1 hx with h1 | h1
  · subst h1; exact isDig_of _ (by omega)
  · rw [List.mem_singleton] at h1; subst h1; exact isDig_of _ (by omega)
theorem dec_ne (u : Nat) : Lib.decDigits u ≠ [] := by
  by_cases h : u < 10
  · rw [Lib.decDigits_one h]; simp
  · rw [Lib.decDigits, dif_neg h]; simp
theorem parseM (M : Nat) (hM : M ≤ 18446744073709551615) (l : List UInt8) : ∀ acc, (∀ c ∈ l, isDig c = true) → val acc l ≤ M → Lib.parseUintM M acc l = .ok (val acc l) := by
  induction l with
  | nil => intro acc _ _; rfl
  | cons c l ih =>
    intro acc hd hv
    have h1 := hd c (by simp)
    unfold isDig at h1
    have h2 : 48 ≤ c.toNat ∧ c.toNat ≤ 57 := by simpa using h1
    have hv' : val (acc * 10 + (c.toNat - 48)) l ≤ M := hv
    have hg := val_ge l (acc * 10 + (c.toNat - 48))
    unfold Lib.parseUintM
    rw [if_pos h2, if_neg (by omega), if_neg (by omega), ih _ (fun x hx => hd x (by simp [hx])) hv']
    rfl
theorem parse_digits (q c : Nat) (hc : c < 100) (h : q * 100 + c ≤ 18446744073709551615) : Lib.parseUintB 64 (Lib.decDigits q ++ two c) = .ok (q * 100 + c) := by
  unfold Lib.parseUintB
  have hne : Lib.decDigits q ++ two c ≠ [] := by simp [dec_ne]
  have hv : val 0 (Lib.decDigits q ++ two c) = q * 100 + c := by rw [val_append, val_dec, val_two _ _ hc]
  rw [if_neg hne, parseM _ (by decide) _ 0 (fun x hx => by
    rcases List.mem_append.1 hx with h1 | h1
    · exact dig_dec q x h1
    · exact dig_two c hc x h1) (by rw [hv]; simpa using h), hv]
theorem parseInt_text (n : Int) (h : -9223372036854775808 ≤ n ∧ n ≤ 9223372036854775807) : Lib.parseIntB 64 (sign n ++ Lib.decDigits (n.natAbs / 100) ++ two (n.natAbs % 100)) = .ok n := by
  have hp := parse_digits (n.natAbs / 100) (n.natAbs % 100) (by omega) (by omega)
  have hs : n.natAbs / 100 * 100 + n.natAbs % 100 = n.natAbs := by omega
  rw [hs] at hp
  by_cases hn : n < 0
  · unfold sign
    rw [if_pos hn]
    unfold Lib.parseIntB
    simp only [List.cons_append, List.nil_append, List.append_assoc]
    rw [show (45 : UInt8).toNat = 45 from rfl]
    simp only [or_true, if_true, hp]
    rw [if_neg (by simp), if_neg (by simp; omega)]
    congr 1; omega
  · unfold sign
    rw [if_neg hn]
    rcases hd : Lib.decDigits (n.natAbs / 100) with _ | ⟨c, r⟩
    · exact absurd hd (dec_ne _)
    · have hc := dig_dec (n.natAbs / 100) c (by rw [hd]; simp)
      unfold isDig at hc
      have hc2 : 48 ≤ c.toNat ∧ c.toNat ≤ 57 := by simpa using hc
      rw [hd] at hp
      unfold Lib.parseIntB
      simp only [List.cons_append, List.nil_append] at hp ⊢
      rw [if_neg (by omega), hp]
      have hneg : ¬ c.toNat = 45 := by omega
      simp only [hneg, not_false_eq_true, true_and, false_and, if_false]
      rw [if_neg (by simp; omega)]
      congr 1; omega
theorem cut_at (a b : List UInt8) (c : UInt8) (h : ∀ x ∈ a, x ≠ c) : Lib.cut (a ++ c :: b) [c] = (a, b, true) := by
  have hi : Lib.index (a ++ c :: b) [c] = (a.length : Int) := by
    refine Lib.index_first (i := a.length) (by simp) ?_ ?_
    · simp [Lib.occAt, List.isPrefixOf]
    · intro j hj
      unfold Lib.occAt
      rw [List.drop_append_of_le_length (by omega)]
      rcases hd : a.drop j with _ | ⟨x, r⟩
      · have := congrArg List.length hd; simp at this; omega
      · have hx : x ∈ a := List.mem_of_mem_drop (i := j) (by rw [hd]; simp)
        have := h x hx
        simp [List.isPrefixOf]
        exact fun e => this e.symm
  unfold Lib.cut
  rw [hi]
  simp
theorem cut_text (n : Int) : Lib.cut (text n) [46] = (sign n ++ Lib.decDigits (n.natAbs / 100), two (n.natAbs % 100), true) := by
  unfold text
  rw [← List.append_assoc]
  refine cut_at _ _ 46 ?_
  intro x hx
  rcases List.mem_append.1 hx with h1 | h1
  · unfold sign at h1; split at h1
    · simp at h1; subst h1; decide
    · cases h1
  · have := dig_dec _ x h1
    unfold isDig at this
    intro e; subst e; simp at this
theorem parse_text (n : Int) (h : -9223372036854775808 ≤ n ∧ n ≤ 9223372036854775807) : parse (text n) = some n := by
  unfold parse
  rw [cut_text]
  have hp := parseInt_text n h
  simp only
  rw [if_pos ⟨trivial, rfl⟩, hp]
  simp [read]
theorem parseInt_bd {l : List UInt8} {v : Int} (h : Lib.parseIntB 64 l = .ok v) : -9223372036854775808 ≤ v ∧ v ≤ 9223372036854775807 := by
  unfold Lib.parseIntB at h
  cases l with
  | nil => cases h
  | cons c r =>
    simp only at h
    generalize Lib.parseUintB 64 (if c.toNat = 43 ∨ c.toNat = 45 then r else c :: r) = p at h
    cases p with
    | ok u =>
      simp only at h
      split at h
      · cases h
      · split at h
        · cases h
        · rename_i h1 h2
          injection h with h
          by_cases hn : c.toNat = 45
          · rw [if_pos hn] at h
            have : ¬ 2 ^ (64 - 1) < u := fun x => h2 ⟨hn, x⟩
            omega
          · rw [if_neg hn] at h
            have : ¬ 2 ^ (64 - 1) ≤ u := fun x => h1 ⟨hn, x⟩
            omega
    | _ => cases h
theorem cut_len (l sep : List UInt8) : (Lib.cut l sep).1.length ≤ l.length ∧ (Lib.cut l sep).2.1.length ≤ l.length := by
  unfold Lib.cut
  split
  · simp; omega
  · simp
theorem parse_bd {l : List UInt8} {v : Int} (h : parse l = some v) : -9223372036854775808 ≤ v ∧ v ≤ 9223372036854775807 := by
  unfold parse at h
  split at h
  · generalize hp : Lib.parseIntB 64 ((Lib.cut l [46]).1 ++ (Lib.cut l [46]).2.1) = e at h
    cases e with
    | ok u =>
      simp only [read] at h
      split at h
      · injection h with h; subst h; exact parseInt_bd hp
      · cases h
    | _ => cases h
  · cases h
end Mn
end Go.Proofs.YtahagfdjpldblaaGreatDoor
