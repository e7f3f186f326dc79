/-
  Own texts, several in one (Els, Tally, Share1).
-/
import Derived.Test.YtbhjkddjgikaiaaGreatDoorMrg1
import Derived.Test.YtbhjkddjgikaiaaGreatDoorMrg5
import Derived.Deep.MidRow
import Derived.Deep.SlicePairs
import Derived.Test.YtbhjkddjgikaiaaGreatDoorMrg4
import Derived.Test.YtbhjkddjgikaiaaGreatDoorMrg2
namespace Go.Proofs.YtbhjkddjgikaiaaGreatDoor
open Go.RowKit
set_option linter.unusedVariables false
set_option linter.unusedSimpArgs false

def ElsAt {E : Type} (f : E → List Value) (sz : Nat) (d : E) (w : World) (a : Option Addr) (l : List E) : Prop :=
  l = [] ∨ ∃ b off, a = some ⟨b, off, none⟩ ∧ ∀ i, i < l.length → w.rangeAt b (off + i * sz) (f (l.getD i d))
theorem ElsAt.below {E : Type} {f : E → List Value} {sz : Nat} {d : E} {w w' : World} {a : Option Addr} {l : List E} (h : ElsAt f sz d w a l) (hb : Below w.heap.size w w') : ElsAt f sz d w' a l := by
  rcases h with h | ⟨b, off, e, h⟩
  · exact .inl h
  · exact .inr ⟨b, off, e, fun i hi j v hv => cell_then (h i hi j v hv) hb⟩
theorem range_below {w w' : World} {b o : Nat} {cs : List Value} (h : w.rangeAt b o cs) (hb : Below w.heap.size w w') : w'.rangeAt b o cs := fun j v hv => cell_then (h j v hv) hb
theorem getD_mem {α : Type} {l : List α} {d : α} {k : Nat} (h : k < l.length) : l.getD k d ∈ l := by
  rw [List.getD_eq_getElem?_getD, List.getElem?_eq_getElem h]
  exact List.getElem_mem h
end Go.Proofs.YtbhjkddjgikaiaaGreatDoor

namespace Go.Proofs.YtbhjkddjgikaiaaGreatDoor
open Go.RowKit
set_option linter.unusedVariables false
set_option linter.unusedSimpArgs false

section
variable {α : Type} [DecidableEq α]
def tsum (s : List (α × Int)) (c : α) : Int := ((s.filter fun x => decide (x.1 = c)).map (·.2)).sum
def tG (s : List (α × Int)) : α → Option Int := fun c => if c ∈ s.map (·.1) then some (tsum s c) else none
theorem tG_nil : (tG ([] : List (α × Int))) = fun _ => none := by
  funext c
  simp [tG]
theorem tsum_add (s : List (α × Int)) (x : α × Int) (c : α) : tsum (s ++ [x]) c = tsum s c + if x.1 = c then x.2 else 0 := by
  unfold tsum
  rw [List.filter_append, List.map_append, List.sum_append]
  by_cases h : x.1 = c
  · simp [h]
  · simp [h]
theorem tsum_none (s : List (α × Int)) (c : α) (h : c ∉ s.map (·.1)) : tsum s c = 0 := by
  unfold tsum
  have e : (s.filter fun x => decide (x.1 = c)) = [] := by
    rw [List.filter_eq_nil_iff]
    intro x hx
    simp only [decide_eq_true_eq]
    exact fun e => h (List.mem_map.2 ⟨x, hx, e⟩)
  rw [e]
  rfl
theorem tG_get (s : List (α × Int)) (c : α) : (tG s c).getD 0 = tsum s c := by
  unfold tG
  by_cases h : c ∈ s.map (·.1)
  · rw [if_pos h]; rfl
  · rw [if_neg h, tsum_none s c h]; rfl
theorem tG_step (s : List (α × Int)) (x : α × Int) : (fun d => if d = x.1 then some (tsum s x.1 + x.2) else tG s d) = tG (s ++ [x]) := by
  funext d
  unfold tG
  rw [tsum_add]
  by_cases h : d = x.1
  · subst h
    rw [if_pos rfl, if_pos rfl, if_pos (by simp)]
  · have h2 : ¬ x.1 = d := fun e => h e.symm
    rw [if_neg h, if_neg h2, Int.add_zero]
    by_cases c : d ∈ s.map (·.1)
    · rw [if_pos c, if_pos (by rw [List.map_append]; exact List.mem_append_left _ c)]
    · rw [if_neg c, if_neg (by rw [List.map_append, List.mem_append]; rintro (e | e); exact c e; simp at e; exact h e)]
theorem tG_some (s : List (α × Int)) (c : α) : (∃ u, tG s c = some u) ↔ c ∈ s.map (·.1) := by
  unfold tG
  by_cases h : c ∈ s.map (·.1)
  · rw [if_pos h]
    exact ⟨fun _ => h, fun _ => ⟨_, rfl⟩⟩
  · rw [if_neg h]
    exact ⟨fun ⟨u, hu⟩ => (by cases hu), fun hm => absurd hm h⟩
end
theorem tmap_take_succ {β γ : Type} (l : List β) (f : β → γ) (d : β) (k : Nat) (h : k < l.length) : (l.map f).take (k + 1) = (l.map f).take k ++ [f (l.getD k d)] := by
  rw [← List.map_take, ← List.map_take, List.take_add_one, List.getD_eq_getElem?_getD, List.getElem?_eq_getElem h, List.map_append]
  rfl
/-- a number of 128 bits as a value -/
def wvalT (n : Int) : Value := .agg #[.int .i64 (Wd.hi n), .int .u64 (Wd.lo n)]
theorem zeroT (w : World) : (zeroValue 329).run Tryz.prog w = .ok (wvalT 0) w := by kernel_rfl
theorem grownT_below {w w' : World} {row : Option Nat} (h : Below w.heap.size w w') : w.grownBy w' row := ⟨h.os, h.tape, h.output, h.size, fun k hk _ => h.block k hk⟩
theorem belowT_grown {w w0 w' : World} {b : Nat} (h0 : Below w.heap.size w w0) (hb : w.heap.size ≤ b) (h : w0.grownBy w' (some b)) : Below w.heap.size w w' :=
  h0.trans ⟨h.os, h.tape, h.output, h.size, fun k hk => h.block k (Nat.lt_of_lt_of_le hk h0.size) (by intro e; injection e with e; omega)⟩
end Go.Proofs.YtbhjkddjgikaiaaGreatDoor

namespace Go.Proofs.YtbhjkddjgikaiaaGreatDoor
namespace Sh
set_option linter.unusedVariables false
set_option linter.unusedSimpArgs false

/-- the first of the greatest among the first k -/
def bst (l : List Nat) : Nat → Nat
  | 0 => 0
  | k + 1 => if l.getD (bst l k) 0 < l.getD k 0 then k else bst l k
def best (l : List Nat) : Nat := bst l l.length
/-- what is left, one by one -/
def hand : Nat → List Nat → List Nat → List Nat
  | 0, o, r => o
  | k + 1, o, r => hand k (o.set (best r) (o.getD (best r) 0 + 1)) (r.set (best r) 0)
def quos (S T : Nat) (ws : List Nat) : List Nat := ws.map fun w => S * w / T
def rests (S T : Nat) (ws : List Nat) : List Nat := ws.map fun w => S * w % T
def left (S : Nat) (ws : List Nat) : Nat := S - (quos S ws.sum ws).sum
def sizes (S : Nat) (ws : List Nat) : List Nat := hand (left S ws) (quos S ws.sum ws) (rests S ws.sum ws)
def allot (a : Int) (ws : List Nat) : List Int := (sizes a.natAbs ws).map fun (n : Nat) => if a < 0 then -(n : Int) else (n : Int)

theorem getD_out (l : List Nat) (i : Nat) (h : l.length ≤ i) : l.getD i 0 = 0 := by rw [List.getD_eq_getElem?_getD, List.getElem?_eq_none h]; rfl
theorem quo_lt (l : List Nat) : ∀ k, 0 < l.length → k ≤ l.length → bst l k < l.length
  | 0, h, _ => h
  | k + 1, h, hk => by
    unfold bst
    split
    · omega
    · exact quo_lt l k h (by omega)
theorem bst_max (l : List Nat) : ∀ k i, i < k → l.getD i 0 ≤ l.getD (bst l k) 0
  | 0, i, h => by omega
  | k + 1, i, h => by
    unfold bst
    by_cases hi : i < k
    · have := bst_max l k i hi
      split <;> omega
    · have : i = k := by omega
      subst this
      split <;> omega
theorem best_lt {l : List Nat} (h : 0 < l.length) : best l < l.length := quo_lt l _ h (Nat.le_refl _)
theorem best_max (l : List Nat) (i : Nat) : l.getD i 0 ≤ l.getD (best l) 0 := by
  by_cases h : i < l.length
  · exact bst_max l _ i h
  · rw [getD_out _ _ (by omega)]; omega
theorem sum_set (l : List Nat) : ∀ (b x : Nat), b < l.length → (l.set b x).sum + l.getD b 0 = l.sum + x := by
  induction l with
  | nil => intro b x h; simp at h
  | cons y l ih =>
    intro b x h
    cases b with
    | zero => simp; omega
    | succ b =>
      have := ih b x (by simpa using h)
      simp only [List.set_cons_succ, List.sum_cons, List.getD_cons_succ]
      omega
theorem getD_set (l : List Nat) (b x i : Nat) (hb : b < l.length) : (l.set b x).getD i 0 = if i = b then x else l.getD i 0 := by
  rw [List.getD_eq_getElem?_getD, List.getElem?_set, List.getD_eq_getElem?_getD]
  by_cases h : b = i
  · subst h; simp [hb]
  · rw [if_neg h, if_neg (fun e => h e.symm)]
theorem all_zero (l : List Nat) (h : ∀ i, l.getD i 0 = 0) : l.sum = 0 := by
  induction l with
  | nil => rfl
  | cons y l ih =>
    have h0 := h 0
    have := ih (fun i => by simpa using h (i + 1))
    simp at h0
    simp [h0, this]
theorem best_pos {l : List Nat} (h : 0 < l.sum) : 0 < l.getD (best l) 0 := by
  by_cases c : l.getD (best l) 0 = 0
  · have := all_zero l (fun i => by have := best_max l i; omega)
    omega
  · omega
theorem hand_len : ∀ (k : Nat) (o r : List Nat), (hand k o r).length = o.length
  | 0, o, r => rfl
  | k + 1, o, r => by unfold hand; rw [hand_len k]; simp
theorem hand_sum : ∀ (k : Nat) (o r : List Nat), 0 < r.length → o.length = r.length → (hand k o r).sum = o.sum + k
  | 0, o, r, _, _ => rfl
  | k + 1, o, r, h, hl => by
    unfold hand
    rw [hand_sum k _ _ (by simpa using h) (by simp [hl])]
    have := sum_set o (best r) (o.getD (best r) 0 + 1) (by rw [hl]; exact best_lt h)
    omega
/-- each gets at most one, and none whose rest is nothing -/
theorem hand_bits (T : Nat) : ∀ (k : Nat) (o r : List Nat), o.length = r.length → (∀ i, r.getD i 0 < T) → k * T ≤ r.sum →
    ∃ d : Nat → Nat, (∀ i, d i ≤ 1) ∧ (∀ i, d i = 1 → 0 < r.getD i 0) ∧ ∀ i, (hand k o r).getD i 0 = o.getD i 0 + d i
  | 0, o, r, _, _, _ => ⟨fun _ => 0, fun _ => Nat.zero_le _, fun i h => by simp at h, fun i => rfl⟩
  | k + 1, o, r, hl, hr, hs => by
    have hT : 0 < T := by have := hr 0; omega
    have hs' : k * T + T ≤ r.sum := by rw [← Nat.succ_mul]; exact hs
    have hp := best_pos (l := r) (by omega)
    have hb : best r < r.length := by
      by_cases c : best r < r.length
      · exact c
      · rw [getD_out _ _ (by omega)] at hp; omega
    have hsum := sum_set r (best r) 0 hb
    have hrb := hr (best r)
    obtain ⟨d, h1, h2, h3⟩ := hand_bits T k (o.set (best r) (o.getD (best r) 0 + 1)) (r.set (best r) 0) (by simp [hl]) (fun i => by rw [getD_set _ _ _ _ hb]; split; exact hT; exact hr i) (by omega)
    have h0 : d (best r) = 0 := by
      have := h1 (best r)
      by_cases c : d (best r) = 1
      · have := h2 _ c
        rw [getD_set _ _ _ _ hb, if_pos rfl] at this
        omega
      · omega
    refine ⟨fun i => if i = best r then 1 else d i, fun i => ?_, fun i hi => ?_, fun i => ?_⟩
    · dsimp only; split; omega; exact h1 i
    · dsimp only at hi
      by_cases c : i = best r
      · rw [c]; exact hp
      · rw [if_neg c] at hi
        have := h2 i hi
        rwa [getD_set _ _ _ _ hb, if_neg c] at this
    · unfold hand
      rw [h3 i, getD_set _ _ _ _ (by rw [hl]; exact hb)]
      dsimp only
      by_cases c : i = best r
      · rw [if_pos c, if_pos c, c, h0]
      · rw [if_neg c, if_neg c]
theorem sums (S T : Nat) (ws : List Nat) : T * (quos S T ws).sum + (rests S T ws).sum = S * ws.sum := by
  unfold quos rests
  induction ws with
  | nil => simp
  | cons w l ih =>
    simp only [List.map_cons, List.sum_cons, Nat.mul_add]
    have := Nat.div_add_mod (S * w) T
    omega
theorem left_eq (S : Nat) (ws : List Nat) (hT : 0 < ws.sum) : left S ws * ws.sum = (rests S ws.sum ws).sum ∧ (quos S ws.sum ws).sum ≤ S := by
  have h := sums S ws.sum ws
  unfold left
  have hle : (quos S ws.sum ws).sum ≤ S := by
    by_cases c : (quos S ws.sum ws).sum ≤ S
    · exact c
    · have := Nat.mul_lt_mul_of_pos_left (show S < (quos S ws.sum ws).sum by omega) hT
      rw [Nat.mul_comm ws.sum S] at this
      omega
  refine ⟨?_, hle⟩
  rw [Nat.sub_mul, Nat.mul_comm _ ws.sum, Nat.mul_comm (quos S ws.sum ws).sum]
  rw [Nat.mul_comm ws.sum S]
  omega
theorem rest_lt (S T : Nat) (ws : List Nat) (hT : 0 < T) (i : Nat) : (rests S T ws).getD i 0 < T := by
  unfold rests
  rw [List.getD_eq_getElem?_getD, List.getElem?_map]
  cases ws[i]? with
  | none => exact hT
  | some w => exact Nat.mod_lt _ hT
theorem sum_le_mul (l : List Nat) (T : Nat) (h : ∀ i, l.getD i 0 < T) : l.sum ≤ l.length * T := by
  induction l with
  | nil => simp
  | cons y l ih =>
    have h0 := h 0
    have := ih (fun i => by simpa using h (i + 1))
    simp at h0
    simp only [List.sum_cons, List.length_cons, Nat.succ_mul]
    omega
theorem left_le (S : Nat) (ws : List Nat) (hT : 0 < ws.sum) : left S ws ≤ ws.length := by
  have h := (left_eq S ws hT).1
  have h2 := sum_le_mul (rests S ws.sum ws) ws.sum (rest_lt S _ ws hT)
  have h3 : (rests S ws.sum ws).length = ws.length := by simp [rests]
  rw [h3, ← h] at h2
  exact Nat.le_of_mul_le_mul_right h2 hT
theorem sizes_len (S : Nat) (ws : List Nat) : (sizes S ws).length = ws.length := by unfold sizes; rw [hand_len]; simp [quos]
theorem sizes_sum (S : Nat) (ws : List Nat) (hT : 0 < ws.sum) : (sizes S ws).sum = S := by
  unfold sizes
  have hl : 0 < ws.length := by
    cases ws with
    | nil => simp at hT
    | cons w l => simp
  rw [hand_sum _ _ _ (by simpa [rests] using hl) (by simp [quos, rests])]
  have := (left_eq S ws hT).2
  unfold left
  omega
theorem getD_le_sum (l : List Nat) : ∀ i, l.getD i 0 ≤ l.sum := by
  induction l with
  | nil => intro i; simp
  | cons y l ih =>
    intro i
    cases i with
    | zero => simp
    | succ i => have := ih i; simp only [List.getD_cons_succ, List.sum_cons]; omega
theorem sizes_le (S : Nat) (ws : List Nat) (hT : 0 < ws.sum) (i : Nat) : (sizes S ws).getD i 0 ≤ S := by
  have := getD_le_sum (sizes S ws) i
  rwa [sizes_sum S ws hT] at this
/-- each share is the quotient, or one more, if its rest is more than nothing -/
theorem sizes_bits (S : Nat) (ws : List Nat) (hT : 0 < ws.sum) :
    ∃ d : Nat → Nat, (∀ i, d i ≤ 1) ∧ (∀ i, d i = 1 → 0 < S * ws.getD i 0 % ws.sum) ∧ ∀ i, (sizes S ws).getD i 0 = S * ws.getD i 0 / ws.sum + d i := by
  obtain ⟨d, h1, h2, h3⟩ := hand_bits ws.sum (left S ws) (quos S ws.sum ws) (rests S ws.sum ws) (by simp [quos, rests]) (rest_lt S _ ws hT) (by rw [(left_eq S ws hT).1]; exact Nat.le_refl _)
  have e1 : ∀ i, (rests S ws.sum ws).getD i 0 = S * ws.getD i 0 % ws.sum := fun i => by
    unfold rests
    rw [List.getD_eq_getElem?_getD, List.getElem?_map, List.getD_eq_getElem?_getD]
    cases ws[i]? <;> simp
  have e2 : ∀ i, (quos S ws.sum ws).getD i 0 = S * ws.getD i 0 / ws.sum := fun i => by
    unfold quos
    rw [List.getD_eq_getElem?_getD, List.getElem?_map, List.getD_eq_getElem?_getD]
    cases ws[i]? <;> simp
  exact ⟨d, h1, fun i hi => e1 i ▸ h2 i hi, fun i => by rw [← e2]; exact h3 i⟩
/-- weights as often as much -/
theorem bst_mul (c : Nat) (hc : 0 < c) (l : List Nat) : ∀ k, bst (l.map (c * ·)) k = bst l k
  | 0 => rfl
  | k + 1 => by
    have e : ∀ i, (l.map (c * ·)).getD i 0 = c * l.getD i 0 := fun i => by
      rw [List.getD_eq_getElem?_getD, List.getElem?_map, List.getD_eq_getElem?_getD]
      cases l[i]? <;> simp
    unfold bst
    rw [bst_mul c hc l k, e, e]
    have : (c * l.getD (bst l k) 0 < c * l.getD k 0) ↔ (l.getD (bst l k) 0 < l.getD k 0) := Nat.mul_lt_mul_left hc
    simp only [this]
theorem best_mul (c : Nat) (hc : 0 < c) (l : List Nat) : best (l.map (c * ·)) = best l := by
  unfold best
  rw [bst_mul c hc, List.length_map]
theorem hand_mul (c : Nat) (hc : 0 < c) : ∀ (k : Nat) (o r : List Nat), hand k o (r.map (c * ·)) = hand k o r
  | 0, o, r => rfl
  | k + 1, o, r => by
    unfold hand
    rw [best_mul c hc]
    have e : (r.map (c * ·)).set (best r) 0 = (r.set (best r) 0).map (c * ·) := by rw [List.map_set]; simp
    rw [e, hand_mul c hc k]
theorem sum_mul (c : Nat) (l : List Nat) : (l.map (c * ·)).sum = c * l.sum := by
  induction l with
  | nil => simp
  | cons y l ih => simp [ih, Nat.mul_add]
theorem sizes_mul (c : Nat) (hc : 0 < c) (S : Nat) (ws : List Nat) : sizes S (ws.map (c * ·)) = sizes S ws := by
  have e1 : quos S (ws.map (c * ·)).sum (ws.map (c * ·)) = quos S ws.sum ws := by
    unfold quos
    rw [sum_mul, List.map_map]
    refine List.map_congr_left fun w _ => ?_
    show S * (c * w) / (c * ws.sum) = _
    rw [Nat.mul_left_comm, Nat.mul_div_mul_left _ _ hc]
  have e2 : rests S (ws.map (c * ·)).sum (ws.map (c * ·)) = (rests S ws.sum ws).map (c * ·) := by
    unfold rests
    rw [sum_mul, List.map_map, List.map_map]
    refine List.map_congr_left fun w _ => ?_
    show S * (c * w) % (c * ws.sum) = c * (S * w % ws.sum)
    rw [Nat.mul_left_comm, Nat.mul_mod_mul_left]
  unfold sizes left
  rw [e1, e2, hand_mul c hc]
/-- of one weight alone -/
theorem sizes_one (S w : Nat) (hw : 0 < w) : sizes S [w] = [S] := by
  unfold sizes left quos rests
  simp [Nat.mul_div_cancel _ hw, hand]
end Sh
end Go.Proofs.YtbhjkddjgikaiaaGreatDoor
