/-
  How often each lies in a list: plain facts.
-/
import Derived.Test.YtahagfdjpldblaaGreatDoorSmall
namespace Go.Proofs.YtahagfdjpldblaaGreatDoor
open Go.RowKit Ky
set_option linter.unusedVariables false
set_option linter.unusedSimpArgs false

section
variable {α : Type} [DecidableEq α]
def cnt (s : List α) (c : α) : Nat := s.count c
def cG (s : List α) : α → Option Nat := fun c => if cnt s c = 0 then none else some (cnt s c)
theorem cG_get (s : List α) (c : α) : (cG s c).getD 0 = cnt s c := by
  unfold cG cnt
  by_cases h : s.count c = 0
  · rw [if_pos h, h]; rfl
  · rw [if_neg h]; rfl
theorem cG_step (s : List α) (x : α) : (fun d => if d = x then some (cnt s x + 1) else cG s d) = cG (s ++ [x]) := by
  funext d
  unfold cG cnt
  by_cases h : d = x
  · subst h
    rw [if_pos rfl, List.count_append, List.count_singleton_self, if_neg (by omega)]
  · rw [if_neg h, List.count_append, show List.count d [x] = 0 by
      rw [List.count_eq_zero]
      simp [h]]
    rfl
theorem cG_some (s : List α) (c : α) : (∃ u, cG s c = some u) ↔ c ∈ s := by
  unfold cG cnt
  by_cases h : s.count c = 0
  · rw [if_pos h]
    exact ⟨fun ⟨u, hu⟩ => (by cases hu), fun hm => absurd h (by rw [List.count_eq_zero]; exact fun hn => hn hm)⟩
  · rw [if_neg h]
    refine ⟨fun _ => ?_, fun _ => ⟨_, rfl⟩⟩
    by_cases hm : c ∈ s
    · exact hm
    · exact absurd (List.count_eq_zero.2 hm) h
theorem cG_nil : (cG ([] : List α)) = fun _ => none := by
  funext d
  rfl
theorem sum_add_ind (ps : List α) (f : α → Nat) (x : α) : (ps.map fun p => f p + if p = x then 1 else 0).sum = (ps.map f).sum + ps.count x := by
  induction ps with
  | nil => rfl
  | cons p ps ih =>
    rw [List.map_cons, List.sum_cons, List.map_cons, List.sum_cons, ih, List.count_cons]
    by_cases h : p = x
    · simp [h]; omega
    · simp [h]; omega
theorem nodup_count (ps : List α) (x : α) (hn : ps.Nodup) (hm : x ∈ ps) : ps.count x = 1 := by
  have h1 := List.nodup_iff_count.1 hn x
  have h2 := List.count_pos_iff.2 hm
  omega
theorem sum_counts (s ps : List α) (hn : ps.Nodup) (hm : ∀ c ∈ s, c ∈ ps) : (ps.map fun p => cnt s p).sum = s.length := by
  unfold cnt
  induction s with
  | nil =>
    induction ps with
    | nil => rfl
    | cons p ps ih =>
      rw [List.map_cons, List.sum_cons, ih (List.nodup_cons.1 hn).2 (fun c h => by simp at h)]
      rfl
  | cons x s ih =>
    have h1 := ih (fun c h => hm c (List.mem_cons_of_mem _ h))
    have h2 : (fun p => (x :: s).count p) = fun p => s.count p + if p = x then 1 else 0 := by
      funext p
      rw [List.count_cons]
      by_cases h : x = p
      · simp [h]
      · have : ¬ p = x := fun e => h e.symm
        simp [h, this]
    rw [h2, sum_add_ind, h1, nodup_count ps x hn (hm x (List.mem_cons_self ..))]
    rfl
theorem cnt_pos (s : List α) (c : α) : 0 < cnt s c ↔ c ∈ s := List.count_pos_iff
theorem cnt_le (s : List α) (c : α) : cnt s c ≤ s.length := List.count_le_length
theorem cnt_add (s : List α) (x c : α) : cnt (s ++ [x]) c = cnt s c + if c = x then 1 else 0 := by
  unfold cnt
  rw [List.count_append]
  by_cases h : c = x
  · rw [h, List.count_singleton_self, if_pos rfl]
  · rw [if_neg h, List.count_eq_zero.2 (fun hm => h (List.mem_singleton.1 hm))]
theorem nodup_len : ∀ (ps s : List α), ps.Nodup → (∀ c ∈ ps, c ∈ s) → ps.length ≤ s.length
  | [], s, _, _ => Nat.zero_le _
  | p :: ps, s, hn, hm => by
    have hp := hm p (List.mem_cons_self ..)
    have h1 := nodup_len ps (s.erase p) (List.nodup_cons.1 hn).2 (fun c hc => (List.mem_erase_of_ne (fun e => (List.nodup_cons.1 hn).1 (by rw [← e]; exact hc))).2 (hm c (List.mem_cons_of_mem _ hc)))
    rw [List.length_erase_of_mem hp] at h1
    have h2 : 0 < s.length := List.length_pos_of_mem hp
    show ps.length + 1 ≤ s.length
    omega
theorem count_pos' (s : List α) (c : α) (h : c ∈ s) : 0 < s.count c := List.count_pos_iff.2 h
theorem take_succ' {β : Type} (l : List β) (d : β) (k : Nat) (h : k < l.length) : l.take (k + 1) = l.take k ++ [l.getD k d] := by
  rw [List.take_add_one, List.getD_eq_getElem?_getD, List.getElem?_eq_getElem h]
  rfl
theorem map_take_succ' {β γ : Type} (l : List β) (f : β → γ) (d : β) (k : Nat) (h : k < l.length) : (l.map f).take (k + 1) = (l.map f).take k ++ [f (l.getD k d)] := by
  rw [← List.map_take, ← List.map_take, take_succ' l d k h, List.map_append]
  rfl
end
def sm2 (c : K × K) : K × K := (sm c.1, sm c.2)
theorem sm2_ok (c : K × K) : okp (sm2 c) := ⟨sm_ok _, sm_ok _⟩
theorem sums_le {β : Type} : ∀ (l : List β) (f : β → Nat) (m : Nat), (∀ x, f x ≤ m) → (l.map f).sum ≤ m * l.length
  | [], _, m, _ => by simp
  | x :: l, f, m, h => by
    have h1 := sums_le l f m h
    have h2 := h x
    rw [List.map_cons, List.sum_cons, List.length_cons, Nat.mul_succ]
    omega
theorem num_inj {x y : K} (hx : x.ok) (hy : y.ok) (h : x.num = y.num) : x = y := by
  unfold K.ok at *
  unfold K.num at h
  cases x; cases y
  simp only [K.mk.injEq]
  dsimp only at *
  omega
theorem pcmp_tri {a b : K × K} (h1 : ¬ pcmp b a < 0) (ha : okp a) (hb : okp b) (hne : a ≠ b) : pcmp a b < 0 := by
  rw [pcmp_lt] at *
  by_cases e1 : a.1.num = b.1.num
  · by_cases e2 : a.2.num = b.2.num
    · exact absurd (Prod.ext (num_inj ha.1 hb.1 e1) (num_inj ha.2 hb.2 e2)) hne
    · omega
  · omega
end Go.Proofs.YtahagfdjpldblaaGreatDoor
