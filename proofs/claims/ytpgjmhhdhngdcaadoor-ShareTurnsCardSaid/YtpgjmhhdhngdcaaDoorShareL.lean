/-
  Plain laws of shares: the other sign, weights as often as much, one weight, sums, neighbours; the law's own way to make them.
-/
import Derived.Test.YtpgjmhhdhngdcaaDoorWeights
namespace Go.Proofs.YtpgjmhhdhngdcaaDoor
set_option linter.unusedVariables false
set_option linter.unusedSimpArgs false

theorem allot_neg (a : Int) (ws : List Nat) (hT : 0 < ws.sum) (i : Nat) : (Sh.allot a ws).getD i 0 = -(Sh.allot (-a) ws).getD i 0 := by
  rw [allot_getD, allot_getD, Int.natAbs_neg]
  have := Sh.sizes_le a.natAbs ws hT i
  split <;> split <;> omega
theorem allot_mul (a : Int) (c : Nat) (hc : 0 < c) (ws : List Nat) : Sh.allot a (ws.map (c * ·)) = Sh.allot a ws := by
  unfold Sh.allot
  rw [Sh.sizes_mul c hc]
theorem allot_one (a : Int) (x : Nat) (hx : 0 < x) : Sh.allot a [x] = [a] := by
  unfold Sh.allot
  rw [Sh.sizes_one _ _ hx]
  simp only [List.map_cons, List.map_nil, List.cons.injEq, and_true]
  split <;> omega
theorem sum_pos (l : List Nat) : (l.map fun (n : Nat) => (n : Int)).sum = ((l.sum : Nat) : Int) := by
  induction l with
  | nil => rfl
  | cons y l ih => simp only [List.map_cons, List.sum_cons, ih]; omega
theorem sum_neg (l : List Nat) : (l.map fun (n : Nat) => -(n : Int)).sum = -((l.sum : Nat) : Int) := by
  induction l with
  | nil => rfl
  | cons y l ih => simp only [List.map_cons, List.sum_cons, ih]; omega
theorem allot_sum (a : Int) (ws : List Nat) (hT : 0 < ws.sum) : (Sh.allot a ws).sum = a := by
  unfold Sh.allot
  have := Sh.sizes_sum a.natAbs ws hT
  by_cases c : a < 0
  · simp only [if_pos c]
    rw [sum_neg, this]
    omega
  · simp only [if_neg c]
    rw [sum_pos, this]
    omega
theorem allot_sign (a : Int) (ws : List Nat) (i : Nat) : (a < 0 → (Sh.allot a ws).getD i 0 ≤ 0) ∧ (0 ≤ a → 0 ≤ (Sh.allot a ws).getD i 0) := by
  rw [allot_getD]
  refine ⟨fun h => ?_, fun h => ?_⟩
  · rw [if_pos h]; omega
  · rw [if_neg (by omega)]; omega
theorem allot_like (a : Int) (ws : List Nat) (hT : 0 < ws.sum) (i j : Nat) (h : ws.getD i 0 = ws.getD j 0) :
    (Sh.allot a ws).getD i 0 - (Sh.allot a ws).getD j 0 ≤ 1 ∧ (Sh.allot a ws).getD j 0 - (Sh.allot a ws).getD i 0 ≤ 1 := by
  obtain ⟨d, h1, _, h3⟩ := Sh.sizes_bits a.natAbs ws hT
  rw [allot_getD, allot_getD, h3 i, h3 j, h]
  have hi := h1 i
  have hj := h1 j
  generalize a.natAbs * ws.getD j 0 / ws.sum = q
  split <;> omega

/-- the law's way: the first one of the greatest rests of those that have none given -/
def lb (r g : List Nat) : Nat → Int
  | 0 => -1
  | k + 1 => if g.getD k 0 = 0 ∧ (lb r g k < 0 ∨ r.getD (lb r g k).toNat 0 < r.getD k 0) then (k : Int) else lb r g k
theorem lb_range (r g : List Nat) : ∀ k, -1 ≤ lb r g k ∧ lb r g k < (k : Int)
  | 0 => by unfold lb; omega
  | k + 1 => by
    have := lb_range r g k
    unfold lb
    split <;> omega
theorem lb_bst (r g m : List Nat) (hm : ∀ i, m.getD i 0 = if g.getD i 0 = 0 then r.getD i 0 else 0) : ∀ k,
    (lb r g (k + 1) = -1 ∧ m.getD (Sh.bst m (k + 1)) 0 = 0) ∨
    (0 ≤ lb r g (k + 1) ∧ r.getD (lb r g (k + 1)).toNat 0 = m.getD (Sh.bst m (k + 1)) 0 ∧ (0 < m.getD (Sh.bst m (k + 1)) 0 → lb r g (k + 1) = ((Sh.bst m (k + 1) : Nat) : Int)))
  | 0 => by
    have e0 : Sh.bst m 1 = 0 := by unfold Sh.bst; split <;> rfl
    have h0 := hm 0
    rw [e0]
    unfold lb
    by_cases c : g.getD 0 0 = 0
    · rw [if_pos c] at h0
      rw [if_pos ⟨c, .inl (by unfold lb; omega)⟩]
      right
      refine ⟨by omega, ?_, fun _ => rfl⟩
      rw [h0]
      rfl
    · rw [if_neg c] at h0
      rw [if_neg (fun h => c h.1)]
      left
      exact ⟨rfl, h0⟩
  | k + 1 => by
    have ih := lb_bst r g m hm k
    have hk := hm (k + 1)
    have e1 : Sh.bst m (k + 1 + 1) = if m.getD (Sh.bst m (k + 1)) 0 < m.getD (k + 1) 0 then k + 1 else Sh.bst m (k + 1) := rfl
    have e2 : lb r g (k + 1 + 1) = if g.getD (k + 1) 0 = 0 ∧ (lb r g (k + 1) < 0 ∨ r.getD (lb r g (k + 1)).toNat 0 < r.getD (k + 1) 0) then ((k + 1 : Nat) : Int) else lb r g (k + 1) := rfl
    rw [e1, e2]
    generalize lb r g (k + 1) = x at *
    generalize Sh.bst m (k + 1) = y at *
    generalize k + 1 = n at *
    clear e1 e2
    by_cases c : g.getD n 0 = 0
    · rw [if_pos c] at hk
      rcases ih with ⟨i1, i2⟩ | ⟨i1, i2, i3⟩
      · rw [if_pos ⟨c, .inl (by omega)⟩]
        right
        refine ⟨by omega, ?_, fun h => ?_⟩
        · rw [Int.toNat_natCast, ← hk]
          split
          · rfl
          · omega
        · split
          · rfl
          · next hh => rw [if_neg hh] at h; omega
      · by_cases d : m.getD y 0 < m.getD n 0
        · rw [if_pos d, if_pos ⟨c, .inr (by omega)⟩]
          right
          exact ⟨by omega, by rw [Int.toNat_natCast, ← hk], fun _ => rfl⟩
        · rw [if_neg d, if_neg (by omega)]
          right
          exact ⟨i1, i2, i3⟩
    · rw [if_neg c] at hk
      rw [if_neg (fun h => c h.1), if_neg (by omega)]
      exact ih
/-- so it is the reference's, as long as there is a rest -/
theorem lb_best (r g m : List Nat) (hm : ∀ i, m.getD i 0 = if g.getD i 0 = 0 then r.getD i 0 else 0) (hs : 0 < m.sum) : lb r g m.length = ((Sh.best m : Nat) : Int) := by
  have hp := Sh.best_pos hs
  have hl : 0 < m.length := by
    cases m with
    | nil => simp at hs
    | cons x l => simp
  obtain ⟨k, hk⟩ : ∃ k, m.length = k + 1 := ⟨m.length - 1, by omega⟩
  have := lb_bst r g m hm k
  unfold Sh.best at hp ⊢
  rw [hk] at hp ⊢
  rcases this with ⟨_, h⟩ | ⟨_, _, h⟩
  · omega
  · exact h hp

/-- a division bit by bit -/
theorem bit_div (t b y : Nat) (hy : 0 < y) (hb : b ≤ 1) : (2 * t + b) / y = 2 * (t / y) + (if y ≤ 2 * (t % y) + b then 1 else 0) ∧ (2 * t + b) % y = 2 * (t % y) + b - (if y ≤ 2 * (t % y) + b then y else 0) := by
  have hr := Nat.mod_lt t hy
  have hd := Nat.div_add_mod t y
  generalize t / y = q at *
  generalize t % y = r at *
  have e : 2 * t + b = 2 * r + b + y * (2 * q) := by
    have : y * (2 * q) = 2 * (y * q) := by rw [Nat.mul_left_comm]
    omega
  rw [e, Nat.add_mul_div_left _ _ hy, Nat.add_mul_mod_self_left]
  by_cases c : y ≤ 2 * r + b
  · rw [if_pos c, if_pos c]
    have e1 : (2 * r + b) / y = 1 := by
      refine Nat.div_eq_of_lt_le (by omega) (by omega)
    have e2 : (2 * r + b) % y = 2 * r + b - y := by
      rw [Nat.mod_eq_sub_mod c, Nat.mod_eq_of_lt (by omega)]
    omega
  · rw [if_neg c, if_neg c, Nat.div_eq_of_lt (by omega), Nat.mod_eq_of_lt (by omega)]
    omega
end Go.Proofs.YtpgjmhhdhngdcaaDoor
