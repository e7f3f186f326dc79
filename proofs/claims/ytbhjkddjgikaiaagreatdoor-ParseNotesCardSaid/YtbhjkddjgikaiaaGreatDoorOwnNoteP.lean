/-
  Own texts, several in one (NoteP, Cnt13, ReplP).
-/
import Derived.Test.YtbhjkddjgikaiaaGreatDoorMrg25
import Derived.Test.YtbhjkddjgikaiaaGreatDoorOwnLaw14d
import Derived.Test.YtbhjkddjgikaiaaGreatDoorMrg36
import Derived.Test.YtbhjkddjgikaiaaGreatDoorMrg27
import Derived.Lib.Replace
import Derived.Lib.CountLaws
namespace Go.Proofs.YtbhjkddjgikaiaaGreatDoor
set_option linter.unusedVariables false
set_option linter.unusedSimpArgs false
set_option autoImplicit false
namespace Sc
open Lx
section
variable (pd : List UInt8 → Option Int) (dt : Int → List UInt8) (dr : Int → Prop)
/-- an op's text, a note and line feeds about its sign -/
def textN (n : List UInt8) (o : Op) : List UInt8 := word o.kind ++ (body dt o ++ (32 :: 35 :: (n ++ [10, 59, 10, 10])))
theorem body_stop (o : Op) (m : List UInt8) : stop (body dt o ++ (32 :: m)) := by
  unfold body
  by_cases h1 : o.kind = 1
  · rw [if_pos h1]; exact ⟨rfl, rfl⟩
  · by_cases h4 : o.kind = 4
    · rw [if_neg h1, if_pos h4]; exact ⟨rfl, rfl⟩
    · by_cases h7 : o.kind = 7
      · rw [if_neg h1, if_neg h4, if_pos h7]
        rcases o.starts with _ | ⟨d, r⟩ <;> exact ⟨rfl, rfl⟩
      · rw [if_neg h1, if_neg h4, if_neg h7]; exact ⟨rfl, rfl⟩
theorem split_textN (hdd : DayT pd dt dr) (n : List UInt8) (hn : ∀ b ∈ n, b ≠ (10 : UInt8)) (o : Op) (ho : o.ok dr) (m : List UInt8) (i : Nat) :
    ∃ ts j, ts.map Tk.bare = toks dt o ∧ (hd ts).pos = i ∧ j = i + (textN dt n o).length ∧ split pd (textN dt n o ++ m) i = prep ts (split pd m j) := by
  have hb := lex_body pd dt dr hdd o ho
  have e0 : textN dt n o ++ m = word o.kind ++ (body dt o ++ (32 :: ((35 :: (n ++ [10])) ++ (59 :: 10 :: 10 :: m)))) := by simp [textN]
  have hw := (isT_word pd _ (word_ne o.kind ho.kind) (word_low o.kind)).split pd (body dt o ++ (32 :: ((35 :: (n ++ [10])) ++ (59 :: 10 :: 10 :: m)))) i (body_stop dt o _)
  obtain ⟨ts, h1, h2⟩ := hb.1 (32 :: ((35 :: (n ++ [10])) ++ (59 :: 10 :: 10 :: m))) (i + (word o.kind).length) (stop_cons 32 (by decide) _)
  rw [e0, hw, h2, split_blank pd 32 _ _ (.inl rfl), split_gap pd _ (.inr (.inr ⟨n, rfl, hn⟩)), split_sign pd 59 (.inr rfl), split_blank pd 10 _ _ (.inr rfl), split_blank pd 10 _ _ (.inr rfl), consE_prep, consE_prep, prep_prep, prep_prep]
  refine ⟨_, _, ?_, ?_, ?_, rfl⟩
  · rw [toks_body, List.map_append, List.map_append, h1]
    rfl
  · rfl
  · simp [textN]
    omega
theorem parse_opsN (hd' : DayT pd dt dr) (n0 : List UInt8) (hn0 : ∀ b ∈ n0, b ≠ (10 : UInt8)) : ∀ (ops : List Op) (f n i : Nat), (∀ o ∈ ops, o.ok dr ∧ o.may) → n + ops.length ≤ 100 → ops.length < f →
    ∃ ts r, split pd (ops.flatMap (textN dt n0)) i = .ok ts ∧ parseOf f n ts = .ok r ∧ r.map Op.bare = ops.map Op.bare ∧ ∀ o ∈ r, o.pos ≤ i + (ops.flatMap (textN dt n0)).length
  | _, 0, _, _, _, _, h => by omega
  | [], f + 1, n, i, _, _, _ => ⟨[tk0.put i], [], by rw [List.flatMap_nil, split_nil], rfl, rfl, fun o ho => by cases ho⟩
  | o :: r, f + 1, n, i, ho, hn, hf => by
    obtain ⟨ts, j, h1, hp0, hj, h3⟩ := split_textN pd dt dr hd' n0 hn0 o (ho o (by simp)).1 (r.flatMap (textN dt n0)) i
    obtain ⟨us, r', k1, k2, k3, k4⟩ := parse_opsN hd' n0 hn0 r f (n + 1) j (fun x hx => ho x (by simp [hx])) (by simp at hn; omega) (by simpa using hf)
    refine ⟨ts ++ us, { o with pos := (hd (ts ++ us)).pos } :: r', ?_, ?_, ?_, ?_⟩
    · rw [List.flatMap_cons, h3, k1]; rfl
    · have hts : hd (ts ++ us) = hd ts := by
        rcases ts with _ | ⟨t, r2⟩
        · rw [toks_body] at h1; simp at h1
        · rfl
      have hp := parse_op dt o (ho o (by simp)).2 f n (by simp at hn; omega) ts us h1
      rw [hp, k2, hts]
    · rw [List.map_cons, List.map_cons, k3]
      rfl
    · have hts : hd (ts ++ us) = hd ts := by
        rcases ts with _ | ⟨t, r2⟩
        · rw [toks_body] at h1; simp at h1
        · rfl
      intro x hx
      rw [List.flatMap_cons, List.length_append]
      rcases List.mem_cons.1 hx with rfl | hx
      · show (hd (ts ++ us)).pos ≤ _
        rw [hts, hp0]
        omega
      · have := k4 x hx
        omega
theorem parse_notes (hd' : DayT pd dt dr) (n0 : List UInt8) (hn0 : ∀ b ∈ n0, b ≠ (10 : UInt8)) (ops : List Op) (ho : ∀ o ∈ ops, o.ok dr ∧ o.may) (hn : ops.length ≤ 100) (hl : (35 :: (n0 ++ [10]) ++ ops.flatMap (textN dt n0)).length ≤ 65536) :
    ∃ r, parse pd (35 :: (n0 ++ [10]) ++ ops.flatMap (textN dt n0)) = .ok r ∧ r.map Op.bare = ops.map Op.bare ∧ ∀ o ∈ r, o.pos ≤ 65536 := by
  obtain ⟨ts, r, h1, h2, h3, h4⟩ := parse_opsN pd dt dr hd' n0 hn0 ops 101 0 (0 + (35 :: (n0 ++ [10])).length) ho (by omega) (by omega)
  refine ⟨r, ?_, h3, fun o ho => ?_⟩
  · unfold parse
    rw [if_neg (by omega), split_gap pd _ (.inr (.inr ⟨n0, rfl, hn0⟩)), h1]
    exact h2
  · have := h4 o ho
    rw [List.length_append] at hl
    omega
end
end Sc
end Go.Proofs.YtbhjkddjgikaiaaGreatDoor

namespace Go.Proofs.YtbhjkddjgikaiaaGreatDoor
set_option linter.unusedVariables false
set_option linter.unusedSimpArgs false
namespace Sc
/-- no end, no line in it -/
def cl (x : List UInt8) : Prop := ∀ b ∈ x, b ≠ 59 ∧ b ≠ 10
theorem cl_app {x y : List UInt8} (h : cl x) (k : cl y) : cl (x ++ y) := fun b hb => by
  rcases List.mem_append.1 hb with hb | hb
  · exact h b hb
  · exact k b hb
theorem cl_cons {c : UInt8} {x : List UInt8} (h : c ≠ 59 ∧ c ≠ 10) (k : cl x) : cl (c :: x) := fun b hb => by
  rcases List.mem_cons.1 hb with rfl | hb
  · exact h
  · exact k b hb
theorem cl_nil : cl [] := fun b hb => by cases hb
theorem cl_flat {α : Type} (f : α → List UInt8) (l : List α) (h : ∀ x ∈ l, cl (f x)) : cl (l.flatMap f) := fun b hb => by
  obtain ⟨x, hx, hb⟩ := List.mem_flatMap.1 hb
  exact h x hx b hb
theorem dig_ne {b : UInt8} (h : 48 ≤ b.toNat ∧ b.toNat ≤ 57) : b ≠ 59 ∧ b ≠ 10 := ⟨fun e => by rw [e] at h; exact absurd h (by decide), fun e => by rw [e] at h; exact absurd h (by decide)⟩
theorem low_ne : ∀ b : UInt8, Lx.low b = true → b ≠ 59 ∧ b ≠ 10 := fun b h => ⟨fun e => by rw [e] at h; exact absurd h (by decide), fun e => by rw [e] at h; exact absurd h (by decide)⟩
theorem cl_dec (n : Nat) : cl (dec n) := fun b hb => dig_ne (dec_dig n b hb)
theorem cl_word (k : Nat) : cl (word k) := fun b hb => low_ne b (word_low k b hb)
theorem cl_link (k : Nat) : cl (link k) := fun b hb => low_ne b (link_low k b hb)
theorem sp_ne : (32 : UInt8) ≠ 59 ∧ (32 : UInt8) ≠ 10 := by decide
theorem cl_part (p : Nat × Nat) : cl (part p) := cl_cons sp_ne (cl_app (cl_dec _) (cl_cons sp_ne (cl_dec _)))
theorem cl_parts (l : List (Nat × Nat)) : cl (partsT l) := by
  rcases l with _ | ⟨p, r⟩
  · exact cl_nil
  · exact cl_app (cl_part p) (cl_flat _ _ fun q _ => cl_cons (by decide) (cl_part q))
theorem cl_day (n : Int) : cl (Dy.text n) := by
  by_cases h : Dy.inY n
  · obtain ⟨y, a, b, c, d⟩ := Dy.year_ex n h
    rw [Dy.text_year n y ⟨a, b⟩ c d]
    obtain ⟨a', b', c', e, _⟩ := Dy.txt_nat n y ⟨a, b⟩ c d
    rw [e]
    have hp : ∀ n size, cl (padL ((n : Nat) : Int) size) := fun n size b hb => dig_ne (Dy.pad_dig n size b hb)
    have h45 : cl [45] := cl_cons (by decide) cl_nil
    exact cl_app (cl_app (cl_app (cl_app (hp _ _) h45) (hp _ _)) h45) (hp _ _)
  · unfold Dy.text
    rw [dif_neg]
    · exact cl_nil
    · rintro ⟨y, a, b, c, d⟩
      have h1 := ahead_bd y ⟨a, by omega⟩
      have h2 := ahead_bd (y + 1) ⟨by omega, by omega⟩
      unfold Dy.inY at h
      omega
theorem cl_body (o : Op) (hn : cl o.name) : cl (word o.kind ++ body Dy.text o) := by
  refine cl_app (cl_word _) ?_
  unfold body
  split
  · exact cl_cons sp_ne (cl_app (cl_dec _) (cl_app (cl_cons (by decide) (cl_cons (by decide) cl_nil)) (cl_app hn (cl_cons (by decide) cl_nil))))
  · split
    · exact cl_cons sp_ne (cl_app (cl_dec _) (cl_cons sp_ne (cl_app (cl_link _) (cl_parts _))))
    · split
      · exact cl_app (cl_flat _ _ fun d _ => cl_cons sp_ne (cl_day d)) (cl_cons sp_ne (cl_app (cl_link _) (cl_cons sp_ne (cl_day _))))
      · exact cl_cons sp_ne (cl_app (cl_dec _) (cl_cons sp_ne (cl_app (cl_link _) (cl_cons sp_ne (cl_dec _)))))
theorem cl_name6 (n : Nat) : cl (name6 n) := by
  have h : ∀ x ∈ names6, ∀ b ∈ x, b ≠ 59 ∧ b ≠ 10 := by decide
  exact h _ (name6_mem n)
theorem raw_cl (x : O) : cl (raw x).name := by
  unfold raw
  split
  · exact cl_name6 _
  · split
    · exact cl_nil
    · split
      · exact cl_nil
      · split
        · exact cl_nil
        · exact cl_nil
end Sc
end Go.Proofs.YtbhjkddjgikaiaaGreatDoor

namespace Go.Proofs.YtbhjkddjgikaiaaGreatDoor
set_option linter.unusedVariables false
set_option linter.unusedSimpArgs false
set_option autoImplicit false
namespace Sc
open Lx
theorem index_sign : ∀ (x m : List UInt8), cl x → Lib.index (x ++ 59 :: 10 :: m) [59, 10] = (x.length : Nat)
  | [], m, _ => by simp [Lib.index]
  | b :: x, m, h => by
    have h1 := index_sign x m (fun c hc => h c (by simp [hc]))
    have hb : b ≠ 59 := (h b (by simp)).1
    rw [List.cons_append, Lib.index, h1]
    have h2 : List.isPrefixOf [59, 10] (b :: (x ++ 59 :: 10 :: m)) = false := by
      simp [List.isPrefixOf, Ne.symm hb]
    rw [h2]
    have h3 : ((x.length : Int) == -1) = false := by
      rw [beq_eq_false_iff_ne]
      omega
    simp [h3]
theorem count_signs : ∀ (l : List (List UInt8)), (∀ x ∈ l, cl x) → Lib.count (l.flatMap fun x => x ++ [59, 10]) [59, 10] = l.length
  | [], _ => by
    rw [List.flatMap_nil, List.length_nil]
    exact Lib.count_miss (by decide)
  | x :: l, h => by
    have h1 := index_sign x (l.flatMap fun x => x ++ [59, 10]) (h x (by simp))
    have e : ((x :: l).flatMap fun x => x ++ [59, 10]) = x ++ 59 :: 10 :: (l.flatMap fun x => x ++ [59, 10]) := by simp
    rw [e, Lib.count_hit (by simp) h1]
    have h2 : (x ++ 59 :: 10 :: (l.flatMap fun x => x ++ [59, 10])).drop (x.length + ([59, 10] : List UInt8).length) = l.flatMap fun x => x ++ [59, 10] := by
      rw [← List.drop_drop, List.drop_left]
      rfl
    rw [h2, count_signs l (fun y hy => h y (by simp [hy])), List.length_cons]
    omega
theorem replace_signs (new : List UInt8) : ∀ (l : List (List UInt8)), (∀ x ∈ l, cl x) → Lib.replaceK [59, 10] new l.length (l.flatMap fun x => x ++ [59, 10]) = l.flatMap fun x => x ++ new
  | [], _ => rfl
  | x :: l, h => by
    have h1 := index_sign x (l.flatMap fun x => x ++ [59, 10]) (h x (by simp))
    have e : ((x :: l).flatMap fun x => x ++ [59, 10]) = x ++ 59 :: 10 :: (l.flatMap fun x => x ++ [59, 10]) := by simp
    rw [e, List.length_cons, Lib.replaceK_hit _ _ _ _ _ h1]
    have h2 : (x ++ 59 :: 10 :: (l.flatMap fun x => x ++ [59, 10])).drop (x.length + ([59, 10] : List UInt8).length) = l.flatMap fun x => x ++ [59, 10] := by
      rw [← List.drop_drop, List.drop_left]
      rfl
    rw [h2, replace_signs new l (fun y hy => h y (by simp [hy])), List.take_left, List.flatMap_cons]
theorem replaceAll_signs (new : List UInt8) (hne : new ≠ [59, 10]) (l : List (List UInt8)) (h : ∀ x ∈ l, cl x) : Lib.replaceAll (l.flatMap fun x => x ++ [59, 10]) [59, 10] new = l.flatMap fun x => x ++ new := by
  unfold Lib.replaceAll Lib.replace
  rw [if_neg (by simp [Ne.symm hne]), Lib.replaceNum, if_pos (.inl (by omega)), count_signs l h]
  exact replace_signs new l h
/-- the print of ops, each sign with its line feed replaced by a note and line feeds about it -/
theorem replace_print (n : List UInt8) (ops : List Op) (h : ∀ o ∈ ops, cl o.name) : Lib.replaceAll (print Dy.text ops) [59, 10] (32 :: 35 :: (n ++ [10, 59, 10, 10])) = ops.flatMap (textN Dy.text n) := by
  have e1 : print Dy.text ops = (ops.map fun o => word o.kind ++ body Dy.text o).flatMap fun x => x ++ [59, 10] := by
    unfold print
    rw [List.flatMap_map]
    congr 1
    funext o
    rw [text_body]
    simp
  have e2 : ops.flatMap (textN Dy.text n) = (ops.map fun o => word o.kind ++ body Dy.text o).flatMap fun x => x ++ (32 :: 35 :: (n ++ [10, 59, 10, 10])) := by
    rw [List.flatMap_map]
    congr 1
    funext o
    simp [textN]
  rw [e1, e2]
  exact replaceAll_signs _ (by simp) _ (fun x hx => by
    obtain ⟨o, ho, rfl⟩ := List.mem_map.1 hx
    exact cl_body o (h o ho))
end Sc
end Go.Proofs.YtbhjkddjgikaiaaGreatDoor
