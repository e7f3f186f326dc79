/-
  Plain facts on the texts of amounts that are a hundred times as much. No program here.
-/
import Derived.Test.YtpgjmhhdhngdcaaDoorMoney1
import Derived.Lib.Replace
import Derived.Lib.SlTrimSet
namespace Go.Proofs.YtpgjmhhdhngdcaaDoor
set_option linter.unusedVariables false
set_option linter.unusedSimpArgs false
namespace Mn
theorem index_dot (b : List UInt8) : ∀ (a : List UInt8), (∀ c ∈ a, c ≠ 46) → Lib.index (a ++ 46 :: b) [46] = (a.length : Int)
  | [], _ => by
    show Lib.index (46 :: b) [46] = 0
    unfold Lib.index
    rw [if_pos (by simp)]
  | c :: a, h => by
    have ih := index_dot b a (fun d hd => h d (List.mem_cons_of_mem _ hd))
    have hc : c ≠ 46 := h c List.mem_cons_self
    show Lib.index (c :: (a ++ 46 :: b)) [46] = _
    unfold Lib.index
    rw [if_neg (by simp only [List.isPrefixOf, Bool.and_true]; intro e; exact hc (beq_iff_eq.1 e).symm), ih, if_neg (by intro e; have := beq_iff_eq.1 e; omega)]
    simp
theorem repl_dot (a b : List UInt8) (h : ∀ c ∈ a, c ≠ 46) : Lib.replace (a ++ 46 :: b) [46] [] 1 = a ++ b := by
  have hi := index_dot b a h
  have hc : 1 ≤ Lib.count (a ++ 46 :: b) [46] := by
    unfold Lib.count Lib.countFrom
    rw [hi, if_neg (by intro e; have := beq_iff_eq.1 e; omega)]
    omega
  unfold Lib.replace
  rw [if_neg (by simp)]
  have e1 : Lib.replaceNum (a ++ 46 :: b) [46] 1 = 1 := by
    unfold Lib.replaceNum
    rw [if_neg (by omega)]
    rfl
  rw [e1, Lib.replaceK_hit [46] [] 0 _ a.length hi]
  simp [Lib.replaceK, List.drop_append]
theorem dec_two (m : Nat) (h : 10 ≤ m) (h2 : m < 100) : Lib.decDigits m = two m := by
  rw [Lib.decDigits, dif_neg (by omega), Lib.decDigits_one (by omega)]
  rfl
theorem dec_hundred (m : Nat) (h : 100 ≤ m) : Lib.decDigits m = Lib.decDigits (m / 100) ++ two (m % 100) := by
  rw [Lib.decDigits, dif_neg (by omega), Lib.decDigits, dif_neg (by omega)]
  rw [show m / 10 / 10 = m / 100 by omega, List.append_assoc]
  unfold two
  rw [show m % 100 / 10 = m / 10 % 10 by omega, show m % 100 % 10 = m % 10 by omega]
  rfl
theorem dec_head (m : Nat) (h : 1 ≤ m) : ∃ c r, Lib.decDigits m = c :: r ∧ 49 ≤ c.toNat := by
  induction m using Nat.strongRecOn with
  | _ m ih =>
    by_cases c : m < 10
    · exact ⟨_, _, Lib.decDigits_one c, by rw [digit_nat m c]; omega⟩
    · obtain ⟨d, r, e, hd⟩ := ih (m / 10) (by omega) (by omega)
      rw [Lib.decDigits, dif_neg c, e]
      exact ⟨d, _, rfl, hd⟩
theorem not_in (c : UInt8) (h : 49 ≤ c.toNat) : ([45, 48] : List UInt8).contains c = false := by
  rw [List.contains_eq_any_beq]
  simp only [List.any_cons, List.any_nil, Bool.or_false, Bool.or_eq_false_iff, beq_eq_false_iff_ne]
  refine ⟨fun e => ?_, fun e => ?_⟩ <;> (subst e; revert h; decide)
theorem trim_stop (c : UInt8) (r : List UInt8) (h : 49 ≤ c.toNat) : Lib.trimLeftS (c :: r) [45, 48] = c :: r := by
  unfold Lib.trimLeftS
  rw [List.dropWhile_cons, if_neg (by rw [not_in c h]; simp)]
theorem trim_skip (c : UInt8) (r : List UInt8) (h : c = 45 ∨ c = 48) : Lib.trimLeftS (c :: r) [45, 48] = Lib.trimLeftS r [45, 48] := by
  unfold Lib.trimLeftS
  rw [List.dropWhile_cons, if_pos (by rcases h with rfl | rfl <;> decide)]
/-- the digits with the point taken out, and what stands ahead that counts nothing -/
theorem trim_all (n : Int) (h : n ≠ 0) : Lib.trimLeftS (sign n ++ (Lib.decDigits (n.natAbs / 100) ++ two (n.natAbs % 100))) [45, 48] = Lib.decDigits n.natAbs := by
  have h1 : 1 ≤ n.natAbs := by omega
  generalize n.natAbs = m at *
  have e0 : Lib.trimLeftS (sign n ++ (Lib.decDigits (m / 100) ++ two (m % 100))) [45, 48] = Lib.trimLeftS (Lib.decDigits (m / 100) ++ two (m % 100)) [45, 48] := by
    unfold sign
    split
    · exact trim_skip 45 _ (.inl rfl)
    · rfl
  rw [e0]
  by_cases c : 100 ≤ m
  · rw [← dec_hundred m c]
    obtain ⟨d, r, e, hd⟩ := dec_head m h1
    rw [e, trim_stop d r hd]
  · rw [show m / 100 = 0 by omega, show m % 100 = m by omega, Lib.decDigits_one (show (0 : Nat) < 10 by omega)]
    show Lib.trimLeftS (UInt8.ofNat (48 + 0) :: two m) [45, 48] = _
    rw [trim_skip (UInt8.ofNat (48 + 0)) _ (.inr rfl)]
    by_cases c2 : 10 ≤ m
    · rw [← dec_two m c2 (by omega)]
      obtain ⟨d, r, e, hd⟩ := dec_head m h1
      rw [e, trim_stop d r hd]
    · unfold two
      rw [show m / 10 = 0 by omega, show m % 10 = m by omega, trim_skip (UInt8.ofNat (48 + 0)) _ (.inr rfl), Lib.decDigits_one (by omega), trim_stop _ _ (by rw [digit_nat m (by omega)]; omega)]
theorem text_long (n : Int) : text (n * 100) = sign n ++ (Lib.decDigits n.natAbs ++ [46, 48, 48]) := by
  unfold text
  rw [Int.natAbs_mul, show (100 : Int).natAbs = 100 from rfl, Nat.mul_div_cancel _ (by omega), Nat.mul_mod_left]
  have e : sign (n * 100) = sign n := by
    unfold sign
    by_cases c : n < 0
    · rw [if_pos c, if_pos (by omega)]
    · rw [if_neg c, if_neg (by omega)]
  rw [e]
  rfl
theorem repl_text (n : Int) : Lib.replace (text n) [46] [] 1 = sign n ++ (Lib.decDigits (n.natAbs / 100) ++ two (n.natAbs % 100)) := by
  unfold text
  rw [← List.append_assoc, repl_dot _ _ ?_, List.append_assoc]
  intro c hc
  rcases List.mem_append.1 hc with h | h
  · unfold sign at h
    split at h
    · simp at h; subst h; decide
    · simp at h
  · have := dig_dec _ c h
    unfold isDig at this
    intro e
    subst e
    revert this
    decide
end Mn
end Go.Proofs.YtpgjmhhdhngdcaaDoor
