/-
  Own texts, several in one (Els, Tally, Share1).
-/
import Derived.Test.YtbhjkddjgikaiaaGreatDoorMrg1
import Derived.Test.YtbhjkddjgikaiaaGreatDoorMrg5
import Derived.Deep.MidRow
import Derived.Deep.SlicePairs
import Derived.Test.YtbhjkddjgikaiaaGreatDoorMrg4
import Derived.Test.YtbhjkddjgikaiaaGreatDoorMrg2
namespace Go.Proofs.YtbhjkddjgikaiaaGreatDoor
open Go.RowKit
set_option linter.unusedVariables false
set_option linter.unusedSimpArgs false

def ElsAt {E : Type} (f : E → List Value) (sz : Nat) (d : E) (w : World) (a : Option Addr) (l : List E) : Prop :=
  l = [] ∨ ∃ b off, a = some ⟨b, off, none⟩ ∧ ∀ i, i < l.length → w.rangeAt b (off + i * sz) (f (l.getD i d))
theorem ElsAt.below {E : Type} {f : E → List Value} {sz : Nat} {d : E} {w w' : World} {a : Option Addr} {l : List E} (h : ElsAt f sz d w a l) (hb : Below w.heap.size w w') : ElsAt f sz d w' a l := by
  rcases h with h | ⟨b, off, e, h⟩
  · exact .inl h
  · exact .inr ⟨b, off, e, fun i hi j v hv => cell_then (h i hi j v hv) hb⟩
theorem range_below {w w' : World} {b o : Nat} {cs : List Value} (h : w.rangeAt b o cs) (hb : Below w.heap.size w w') : w'.rangeAt b o cs := fun j v hv => cell_then (h j v hv) hb
theorem getD_mem {α : Type} {l : List α} {d : α} {k : Nat} (h : k < l.length) : l.getD k d ∈ l := by
  rw [List.getD_eq_getElem?_getD, List.getElem?_eq_getElem h]
  exact List.getElem_mem h
end Go.Proofs.YtbhjkddjgikaiaaGreatDoor

namespace Go.Proofs.YtbhjkddjgikaiaaGreatDoor
open Go.RowKit
set_option linter.unusedVariables false
set_option linter.unusedSimpArgs false

section
variable {α : Type} [DecidableEq α]
def tsum (s : List (α × Int)) (c : α) : Int := ((s.filter fun x => decide (x.1 = c)).map (·.2)).sum
def tG (s : List (α × Int)) : α → Option Int := fun c => if c ∈ s.map (·.1) then some (tsum s c) else none
theorem tG_nil : (tG ([] : List (α × Int))) = fun _ => none := by
  funext c
  simp [tG]
theorem tsum_add (s : List (α × Int)) (x : α × Int) (c : α) : tsum (s ++ [x]) c = tsum s c + if x.1 = c then x.2 else 0 := by
  unfold tsum
  rw [List.filter_append, List.map_append, List.sum_append]
  by_cases h : x.1 = c
  · simp [h]
  · simp [h]
theorem tsum_none (s : List (α × Int)) (c : α) (h : c ∉ s.map (·.1)) : tsum s c = 0 := by
  unfold tsum
  have e : (s.filter fun x => decide (x.1 = c)) = [] := by
    rw [List.filter_eq_nil_iff]
    intro x hx
    simp only [decide_eq_true_eq]
    exact fun e => h (List.mem_map.2 ⟨x, hx, e⟩)
  rw [e]
  rfl
theorem tG_get (s : List (α × Int)) (c : α) : (tG s c).getD 0 = tsum s c := by
  unfold tG
  by_cases h : c ∈ s.map (·.1)
  · rw [if_pos h]; rfl
  · rw [if_neg h, tsum_none s c h]; rfl
theorem tG_step (s : List (α × Int)) (x : α × Int) : (fun d => if d = x.1 then some (tsum s x.1 + x.2) else tG s d) = tG (s ++ [x]) := by
  funext d
  unfold tG
  rw [tsum_add]
  by_cases h : d = x.1
  · subst h
    rw [if_pos rfl, if_pos rfl, if_pos (by simp)]
  · have h2 : ¬ x.1 = d := fun e => h e.symm
    rw [if_neg h, if_neg h2, Int.add_zero]
    by_cases c : d ∈ s.map (·.1)
    · rw [if_pos c, if_pos (by rw [List.map_append]; exact List.mem_append_left _ c)]
    · rw [if_neg c, if_neg (by rw [List.map_append, List.mem_append]; rintro (e | e); exact c e; simp at e; exact h e)]
theorem tG_some (s : List (α × Int)) (c : α) : (∃ u, tG s c = some u) ↔ c ∈ s.map (·.1) := by
  unfold tG
  by_cases h : c ∈ s.map (·.1)
  · rw [if_pos h]
    exact ⟨fun _ => h, fun _ => ⟨_, rfl⟩⟩
  · rw [if_neg h]
    exact ⟨fun ⟨u, hu⟩ => (by cases hu), fun hm => absurd hm h⟩
end
theorem tmap_take_succ {β γ : Type} (l : List β) (f : β → γ) (d : β) (k : Nat) (h : k < l.length) : (l.map f).take (k + 1) = (l.map f).take k ++ [f (l.getD k d)] := by
  rw [← List.map_take, ← List.map_take, List.take_add_one, List.getD_eq_getElem?_getD, List.getElem?_eq_getElem h, List.map_append]
  rfl
/-- a number of 128 bits as a value -/
def wvalT (n : Int) : Value := .agg #[.int .i64 (Wd.hi n), .int .u64 (Wd.lo n)]
theorem zeroT (w : World) : (zeroValue 329).run Tryz.prog w = .ok (wvalT 0) w := by kernel_rfl
theorem grownT_below {w w' : World} {row : Option Nat} (h : Below w.heap.size w w') : w.grownBy w' row := ⟨h.os, h.tape, h.output, h.size, fun k hk _ => h.block k hk⟩
theorem belowT_grown {w w0 w' : World} {b : Nat} (h0 : Below w.heap.size w w0) (hb : w.heap.size ≤ b) (h : w0.grownBy w' (some b)) : Below w.heap.size w w' :=
  h0.trans ⟨h.os, h.tape, h.output, h.size, fun k hk => h.block k (Nat.lt_of_lt_of_le hk h0.size) (by intro e; injection e with e; omega)⟩
end Go.Proofs.YtbhjkddjgikaiaaGreatDoor

namespace Go.Proofs.YtbhjkddjgikaiaaGreatDoor
namespace Sh
set_option linter.unusedVariables false
set_option linter.unusedSimpArgs false

/-- the first of the greatest among the first k -/
def bst (l : List Nat) : Nat → Nat
  | 0 => 0
  | k + 1 => if l.getD (bst l k) 0 < l.getD k 0 then k else bst l k
def best (l : List Nat) : Nat := bst l l.length
/-- what is left, one by one -/
def hand : Nat → List Nat → List Nat → List Nat
  | 0, o, r => o
  | k + 1, o, r => hand k (o.set (best r) (o.getD (best r) 0 + 1)) (r.set (best r) 0)
def quos (S T : Nat) (ws : List Nat) : List Nat := ws.map fun w => S * w / T
def rests (S T : Nat) (ws : List Nat) : List Nat := ws.map fun w => S * w % T
def left (S : Nat) (ws : List Nat) : Nat := S - (quos S ws.sum ws).sum
def sizes (S : Nat) (ws : List Nat) : List Nat := hand (left S ws) (quos S ws.sum ws) (rests S ws.sum ws)
def allot (a : Int) (ws : List Nat) : List Int := (sizes a.natAbs ws).map fun (n : Nat) => if a < 0 then -(n : Int) else (n : Int)

theorem getD_out (l : List Nat) (i : Nat) (h : l.length ≤ i) : l.getD i 0 = 0 := by rw [List.getD_eq_getElem?_getD, List.getElem?_eq_none h]; rfl
theorem quo_lt (l : List Nat) : ∀ k, 0 < l.length → k ≤ l.length → bst l k < l.length
  | 0, h, _ => h
  | k + 1, h, hk => by
    unfold bst
    split
    · omega
    · exact quo_lt l k h (by omega)
theorem best_lt {l : List Nat} (h : 0 < l.length) : best l < l.length := quo_lt l _ h (Nat.le_refl _)
theorem sum_set (l : List Nat) : ∀ (b x : Nat), b < l.length → (l.set b x).sum + l.getD b 0 = l.sum + x := by
  induction l with
  | nil => intro b x h; simp at h
  | cons y l ih =>
    intro b x h
    cases b with
    | zero => simp; omega
    | succ b =>
      have := ih b x (by simpa using h)
      simp only [List.set_cons_succ, List.sum_cons, List.getD_cons_succ]
      omega
theorem getD_set (l : List Nat) (b x i : Nat) (hb : b < l.length) : (l.set b x).getD i 0 = if i = b then x else l.getD i 0 := by
  rw [List.getD_eq_getElem?_getD, List.getElem?_set, List.getD_eq_getElem?_getD]
  by_cases h : b = i
  · subst h; simp [hb]
  · rw [if_neg h, if_neg (fun e => h e.symm)]
theorem hand_sum : ∀ (k : Nat) (o r : List Nat), 0 < r.length → o.length = r.length → (hand k o r).sum = o.sum + k
  | 0, o, r, _, _ => rfl
  | k + 1, o, r, h, hl => by
    unfold hand
    rw [hand_sum k _ _ (by simpa using h) (by simp [hl])]
    have := sum_set o (best r) (o.getD (best r) 0 + 1) (by rw [hl]; exact best_lt h)
    omega
theorem sums (S T : Nat) (ws : List Nat) : T * (quos S T ws).sum + (rests S T ws).sum = S * ws.sum := by
  unfold quos rests
  induction ws with
  | nil => simp
  | cons w l ih =>
    simp only [List.map_cons, List.sum_cons, Nat.mul_add]
    have := Nat.div_add_mod (S * w) T
    omega
theorem left_eq (S : Nat) (ws : List Nat) (hT : 0 < ws.sum) : left S ws * ws.sum = (rests S ws.sum ws).sum ∧ (quos S ws.sum ws).sum ≤ S := by
  have h := sums S ws.sum ws
  unfold left
  have hle : (quos S ws.sum ws).sum ≤ S := by
    by_cases c : (quos S ws.sum ws).sum ≤ S
    · exact c
    · have := Nat.mul_lt_mul_of_pos_left (show S < (quos S ws.sum ws).sum by omega) hT
      rw [Nat.mul_comm ws.sum S] at this
      omega
  refine ⟨?_, hle⟩
  rw [Nat.sub_mul, Nat.mul_comm _ ws.sum, Nat.mul_comm (quos S ws.sum ws).sum]
  rw [Nat.mul_comm ws.sum S]
  omega
theorem rest_lt (S T : Nat) (ws : List Nat) (hT : 0 < T) (i : Nat) : (rests S T ws).getD i 0 < T := by
  unfold rests
  rw [List.getD_eq_getElem?_getD, List.getElem?_map]
  cases ws[i]? with
  | none => exact hT
  | some w => exact Nat.mod_lt _ hT
theorem sum_le_mul (l : List Nat) (T : Nat) (h : ∀ i, l.getD i 0 < T) : l.sum ≤ l.length * T := by
  induction l with
  | nil => simp
  | cons y l ih =>
    have h0 := h 0
    have := ih (fun i => by simpa using h (i + 1))
    simp at h0
    simp only [List.sum_cons, List.length_cons, Nat.succ_mul]
    omega
theorem left_le (S : Nat) (ws : List Nat) (hT : 0 < ws.sum) : left S ws ≤ ws.length := by
  have h := (left_eq S ws hT).1
  have h2 := sum_le_mul (rests S ws.sum ws) ws.sum (rest_lt S _ ws hT)
  have h3 : (rests S ws.sum ws).length = ws.length := by simp [rests]
  rw [h3, ← h] at h2
  exact Nat.le_of_mul_le_mul_right h2 hT
theorem sizes_sum (S : Nat) (ws : List Nat) (hT : 0 < ws.sum) : (sizes S ws).sum = S := by
  unfold sizes
  have hl : 0 < ws.length := by
    cases ws with
    | nil => simp at hT
    | cons w l => simp
  rw [hand_sum _ _ _ (by simpa [rests] using hl) (by simp [quos, rests])]
  have := (left_eq S ws hT).2
  unfold left
  omega
theorem getD_le_sum (l : List Nat) : ∀ i, l.getD i 0 ≤ l.sum := by
  induction l with
  | nil => intro i; simp
  | cons y l ih =>
    intro i
    cases i with
    | zero => simp
    | succ i => have := ih i; simp only [List.getD_cons_succ, List.sum_cons]; omega
theorem sizes_le (S : Nat) (ws : List Nat) (hT : 0 < ws.sum) (i : Nat) : (sizes S ws).getD i 0 ≤ S := by
  have := getD_le_sum (sizes S ws) i
  rwa [sizes_sum S ws hT] at this
end Sh
end Go.Proofs.YtbhjkddjgikaiaaGreatDoor
