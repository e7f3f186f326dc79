/-
  Own texts, several in one (ScP, Split, LexL).
-/
import Derived.Test.YtbhjkddjgikaiaaGreatDoorMrg22
import Derived.Lib.ItoaNum
namespace Go.Proofs.YtbhjkddjgikaiaaGreatDoor
set_option linter.unusedVariables false
set_option linter.unusedSimpArgs false
set_option autoImplicit false
namespace Sc
open Lx
/-- an op: the day of a calendar's period as a number -/
structure Op where
  kind : Nat
  fr : Nat
  too : Nat
  name : List UInt8
  parts : List (Nat × Nat)
  starts : List Int
  fin : Int
  pos : Nat
def Op.bare (o : Op) : Op := { o with pos := 0 }
def words : List (List UInt8) := [[114, 101, 110, 117, 109, 98, 101, 114], [114, 101, 110, 97, 109, 101], [114, 101, 112, 97, 114, 101, 110, 116], [109, 101, 114, 103, 101], [115, 112, 108, 105, 116], [114, 101, 99, 111, 100, 101], [106, 111, 105, 110], [99, 97, 108, 101, 110, 100, 97, 114]]
def links : List (List UInt8) := [[116, 111], [], [117, 110, 100, 101, 114], [105, 110, 116, 111], [105, 110, 116, 111], [116, 111], [105, 110, 116, 111], [117, 110, 116, 105, 108]]
def word (k : Nat) : List UInt8 := words.getD k []
def link (k : Nat) : List UInt8 := links.getD k []
def dec (n : Nat) : List UInt8 := Lib.decDigits n
/-- a part's text -/
def part (p : Nat × Nat) : List UInt8 := 32 :: (dec p.1 ++ 32 :: dec p.2)
def partsT : List (Nat × Nat) → List UInt8
  | [] => []
  | p :: r => part p ++ (r.flatMap fun q => 44 :: part q)
def text (dt : Int → List UInt8) (o : Op) : List UInt8 :=
  if o.kind = 1 then word 1 ++ (32 :: (dec o.fr ++ ([32, 34] ++ (o.name ++ [34, 59]))))
  else if o.kind = 4 then word 4 ++ (32 :: (dec o.fr ++ (32 :: (link 4 ++ (partsT o.parts ++ [59])))))
  else if o.kind = 7 then word 7 ++ ((o.starts.flatMap fun d => 32 :: dt d) ++ (32 :: (link 7 ++ (32 :: (dt o.fin ++ [59])))))
  else word o.kind ++ (32 :: (dec o.fr ++ (32 :: (link o.kind ++ (32 :: (dec o.too ++ [59]))))))
def print (dt : Int → List UInt8) (l : List Op) : List UInt8 := l.flatMap fun o => text dt o ++ [10]

/- tokens -/
def W (x : List UInt8) : Tk := ⟨1, x, 0, 0, 0⟩
def N (n : Nat) : Tk := ⟨2, dec n, n, 0, 0⟩
def D (dt : Int → List UInt8) (d : Int) : Tk := ⟨3, dt d, 0, d, 0⟩
def T (x : List UInt8) : Tk := ⟨4, x, 0, 0, 0⟩
def S (c : UInt8) : Tk := ⟨5, [c], 0, 0, 0⟩
def partsK : List (Nat × Nat) → List Tk
  | [] => []
  | p :: r => N p.1 :: N p.2 :: (r.flatMap fun q => [S 44, N q.1, N q.2])
def toks (dt : Int → List UInt8) (o : Op) : List Tk :=
  if o.kind = 1 then [W (word 1), N o.fr, T o.name, S 59]
  else if o.kind = 4 then W (word 4) :: N o.fr :: W (link 4) :: (partsK o.parts ++ [S 59])
  else if o.kind = 7 then W (word 7) :: (o.starts.map (D dt) ++ [W (link 7), D dt o.fin, S 59])
  else [W (word o.kind), N o.fr, W (link o.kind), N o.too, S 59]
/-- an op that a text tells -/
structure Op.ok (dr : Int → Prop) (o : Op) : Prop where
  kind : o.kind < 8
  fr : o.fr ≤ 9999999
  too : o.too ≤ 9999999
  name : ∀ b ∈ o.name, quo b = true
  parts : ∀ p ∈ o.parts, p.1 ≤ 9999999 ∧ p.2 ≤ 9999999
  starts : ∀ d ∈ o.starts, dr d
  fin : o.kind = 7 → dr o.fin

section
variable (pd : List UInt8 → Option Int)
def stop (m : List UInt8) : Prop := low (m.getD 0 0) = false ∧ dgt (m.getD 0 0) = false
theorem run_stop (p : UInt8 → Bool) (m : List UInt8) (h : p (m.getD 0 0) = false) (x : List UInt8) (hx : ∀ b ∈ x, p b = true) : run p (x ++ m) = x.length := by
  rcases m with _ | ⟨b, m⟩
  · rw [List.append_nil, run_all p x hx]
  · rw [run_app p b (by simpa using h), run_all p x hx]
def prep (ts : List Tk) : Except (Nat × Nat) (List Tk) → Except (Nat × Nat) (List Tk)
  | .error e => .error e
  | .ok l => .ok (ts ++ l)
theorem consE_prep (t : Tk) (r : Except (Nat × Nat) (List Tk)) : consE t r = prep [t] r := by rcases r with e | l <;> rfl
theorem prep_prep (a b : List Tk) (r : Except (Nat × Nat) (List Tk)) : prep a (prep b r) = prep (a ++ b) r := by rcases r with e | l <;> simp [prep]
theorem prep_nil (r : Except (Nat × Nat) (List Tk)) : prep [] r = r := by rcases r with e | l <;> rfl
/-- x, ahead of what is no letter, digit or line, has these tokens -/
def Lexes (x : List UInt8) (bs : List Tk) : Prop := ∀ m i, stop m → ∃ ts, ts.map Tk.bare = bs ∧ split pd (x ++ m) i = prep ts (split pd m (i + x.length))
theorem lex_nil : Lexes pd [] [] := fun m i _ => ⟨[], rfl, by rw [prep_nil]; rfl⟩
theorem lex_sp {x : List UInt8} {bs : List Tk} (h : Lexes pd x bs) : Lexes pd (32 :: x) bs := fun m i hm => by
  obtain ⟨ts, h1, h2⟩ := h m (i + 1) hm
  refine ⟨ts, h1, ?_⟩
  rw [List.cons_append, split_blank pd 32 _ i (.inl rfl), h2, List.length_cons, show i + 1 + x.length = i + (x.length + 1) by omega]
theorem stop_cons (b : UInt8) (h : low b = false ∧ dgt b = false) (m : List UInt8) : stop (b :: m) := h
theorem lex_app {x y : List UInt8} {bs cs : List Tk} (h : Lexes pd x bs) (k : Lexes pd y cs) (hy : ∀ m, stop m → stop (y ++ m)) : Lexes pd (x ++ y) (bs ++ cs) := fun m i hm => by
  obtain ⟨ts, h1, h2⟩ := h (y ++ m) i (hy m hm)
  obtain ⟨us, k1, k2⟩ := k m (i + x.length) hm
  refine ⟨ts ++ us, by rw [List.map_append, h1, k1], ?_⟩
  rw [List.append_assoc, h2, k2, prep_prep, List.length_append, Nat.add_assoc]
/-- x is a token, ahead of what is no letter, digit or line -/
def isT (x : List UInt8) (t : Tk) : Prop := ∃ c r, x = c :: r ∧ c ≠ 32 ∧ c ≠ 10 ∧ c ≠ 35 ∧ t.pos = 0 ∧ ∀ m, stop m → one pd (x ++ m) = .ok (t, x.length)
theorem isT.split {x : List UInt8} {t : Tk} (h : isT pd x t) (m : List UInt8) (i : Nat) (hm : stop m) : Lx.split pd (x ++ m) i = consE (t.put i) (Lx.split pd m (i + x.length)) := by
  obtain ⟨c, r, rfl, h1, h2, h3, hp, h⟩ := h
  have := split_one pd c (r ++ m) i t _ h1 h2 h3 (h m hm)
  rw [List.cons_append, this, ← List.cons_append, List.drop_left' rfl]
theorem isT.lex {x : List UInt8} {t : Tk} (h : isT pd x t) : Lexes pd x [t] := fun m i hm => by
  refine ⟨[t.put i], ?_, by rw [h.split pd m i hm, consE_prep]⟩
  obtain ⟨_, _, _, _, _, _, hp, _⟩ := h
  obtain ⟨k, x, n, d, p⟩ := t
  have : p = 0 := hp
  subst this
  rfl
theorem isT_word (x : List UInt8) (hx : x ≠ []) (hl : ∀ b ∈ x, low b = true) : isT pd x (W x) := by
  obtain ⟨c, r, rfl⟩ : ∃ c r, x = c :: r := by rcases x with _ | ⟨c, r⟩; exact absurd rfl hx; exact ⟨c, r, rfl⟩
  have hc := hl c (by simp)
  refine ⟨c, r, rfl, ?_, ?_, ?_, rfl, fun m hm => ?_⟩
  · rintro rfl; exact absurd hc (by decide)
  · rintro rfl; exact absurd hc (by decide)
  · rintro rfl; exact absurd hc (by decide)
  · have hr := run_stop low m hm.1 _ hl
    rw [List.cons_append] at hr ⊢
    unfold one
    simp only [List.getD_cons_zero, List.drop_succ_cons, List.drop_zero]
    rw [if_pos hc, hr, ← List.cons_append, List.take_left' rfl]
    rfl
theorem low_dig (b : UInt8) (h : 48 ≤ b.toNat ∧ b.toNat ≤ 57) : ¬ low b = true := by
  simp [low, inR]
  omega
theorem isT_dg (x : List UInt8) (t : Tk) (hx : ∃ c r, x = c :: r ∧ 48 ≤ c.toNat ∧ c.toNat ≤ 57) (hl : ∀ b ∈ x, dgt b = true) (hn : number pd x = .ok (t, x.length)) : isT pd x t := by
  obtain ⟨c, r, rfl, hc⟩ := hx
  refine ⟨c, r, rfl, ?_, ?_, ?_, (number_len pd _ _ _ hn).2.1, fun m hm => ?_⟩
  · rintro rfl; exact absurd hc (by decide)
  · rintro rfl; exact absurd hc (by decide)
  · rintro rfl; exact absurd hc (by decide)
  · have hr := run_stop dgt m hm.2 _ hl
    rw [List.cons_append] at hr ⊢
    unfold one
    simp only [List.getD_cons_zero, List.drop_succ_cons, List.drop_zero]
    rw [if_neg (low_dig c hc), if_pos hc, hr, ← List.cons_append, List.take_left' rfl, hn]
theorem isT_text (x : List UInt8) (hl : ∀ b ∈ x, quo b = true) : isT pd (34 :: (x ++ [34])) (T x) := by
  refine ⟨34, _, rfl, by decide, by decide, by decide, rfl, fun m hm => ?_⟩
  have hr : run quo (x ++ 34 :: m) = x.length := by rw [run_app quo 34 (by decide), run_all quo x hl]
  unfold one
  rw [List.cons_append, List.append_assoc]
  simp only [List.getD_cons_zero, List.drop_succ_cons, List.drop_zero]
  rw [if_neg (by decide), if_neg (by decide), if_pos (by trivial), show [34] ++ m = 34 :: m from rfl, hr]
  have hg : (x ++ 34 :: m).getD x.length 0 = 34 := by rw [List.getD_eq_getElem?_getD, List.getElem?_append_right (Nat.le_refl _)]; simp
  rw [if_pos ⟨by simp, hg⟩, List.take_left' rfl]
  simp [T]
theorem isT_sign (c : UInt8) (h : c = 44 ∨ c = 59) : isT pd [c] (S c) := by
  refine ⟨c, [], rfl, ?_, ?_, ?_, rfl, fun m hm => ?_⟩
  · rintro rfl; exact absurd h (by decide)
  · rintro rfl; exact absurd h (by decide)
  · rintro rfl; exact absurd h (by decide)
  · unfold one
    rw [List.cons_append]
    simp only [List.getD_cons_zero, List.drop_succ_cons, List.drop_zero]
    rw [if_neg (by rcases h with rfl | rfl <;> decide), if_neg (by rcases h with rfl | rfl <;> decide), if_neg (by rcases h with rfl | rfl <;> decide), if_pos h]
    rfl
/- a number's digits -/
theorem u8_nat (n : Nat) (h : n < 256) : (UInt8.ofNat n).toNat = n := by simp; omega
theorem dec_dig (n : Nat) : ∀ b ∈ dec n, 48 ≤ b.toNat ∧ b.toNat ≤ 57 := by
  unfold dec
  induction n using Nat.strongRecOn with
  | _ n ih =>
    intro b hb
    rw [Lib.decDigits] at hb
    by_cases h : n < 10
    · rw [dif_pos h] at hb
      simp only [List.mem_singleton] at hb
      subst hb
      rw [u8_nat _ (by omega)]; omega
    · rw [dif_neg h] at hb
      rcases List.mem_append.1 hb with hb | hb
      · exact ih (n / 10) (by omega) b hb
      · simp only [List.mem_singleton] at hb
        subst hb
        rw [u8_nat _ (by omega)]; omega
theorem dec_ne (n : Nat) : dec n ≠ [] := by
  intro h
  have := Lib.decDigits_length n
  have h2 := Lib.nDigits_pos n
  unfold dec at h
  rw [h] at this
  simp at this
  omega
theorem dec_head (n : Nat) (h : 1 ≤ n) : (dec n).getD 0 0 ≠ 48 := by
  unfold dec
  induction n using Nat.strongRecOn with
  | _ n ih =>
    rw [Lib.decDigits]
    by_cases c : n < 10
    · rw [dif_pos c]
      intro e
      have := congrArg UInt8.toNat e
      simp only [List.getD_cons_zero] at this
      rw [u8_nat _ (by omega)] at this
      simp at this
      omega
    · rw [dif_neg c]
      have hi := ih (n / 10) (by omega) (by omega)
      rcases hd : Lib.decDigits (n / 10) with _ | ⟨a, r⟩
      · exact absurd hd (dec_ne (n / 10))
      · rw [hd] at hi
        simpa using hi
theorem dig_app (l : List UInt8) (b : UInt8) : dig (l ++ [b]) = 10 * dig l + ((b.toNat : Int) - 48) := by unfold dig; rw [List.foldl_append]; rfl
theorem dig_dec (n : Nat) : dig (dec n) = n := by
  unfold dec
  induction n using Nat.strongRecOn with
  | _ n ih =>
    rw [Lib.decDigits]
    by_cases c : n < 10
    · rw [dif_pos c]
      have : dig [UInt8.ofNat (48 + n)] = 10 * 0 + (((UInt8.ofNat (48 + n)).toNat : Int) - 48) := rfl
      rw [this, u8_nat _ (by omega)]; omega
    · rw [dif_neg c, dig_app, ih (n / 10) (by omega), u8_nat _ (by omega)]
      omega
theorem dec_len (n : Nat) (h : n ≤ 9999999) : (dec n).length ≤ 7 := by
  unfold dec
  rw [Lib.decDigits_length]
  by_cases h0 : n < 10
  · rw [Lib.nDigits_small h0]; omega
  · have key : ∀ k, n < 10 ^ (k + 1) → Lib.nDigits n ≤ k + 1 := fun k => by
      induction k generalizing n with
      | zero => intro hn; omega
      | succ k ih =>
        intro hn
        by_cases c : n < 10
        · rw [Lib.nDigits_small c]; omega
        · rw [Lib.nDigits_big c]
          by_cases c2 : n / 10 < 10
          · rw [Lib.nDigits_small c2]; omega
          · have := ih (n := n / 10) (by omega) c2 (by rw [Nat.pow_succ] at hn; omega)
            omega
    exact key 6 (by omega)
theorem isT_num (n : Nat) (h : n ≤ 9999999) : isT pd (dec n) (N n) := by
  obtain ⟨c, r, hc⟩ : ∃ c r, dec n = c :: r := by
    rcases hd : dec n with _ | ⟨c, r⟩
    · exact absurd hd (dec_ne n)
    · exact ⟨c, r, rfl⟩
  refine isT_dg pd _ _ ⟨c, r, hc, ?_⟩ (fun b hb => ?_) ?_
  · exact dec_dig n c (by rw [hc]; simp)
  · have := dec_dig n b hb
    simp [dgt, inR, this]
  · unfold number
    rw [if_neg (by
      intro hm
      have := dec_dig n 45 hm
      simp at this), if_neg ?_, dig_dec]
    · rfl
    · rintro (hh | ⟨hh, h0⟩)
      · have := dec_len n h; omega
      · by_cases c0 : 1 ≤ n
        · exact dec_head n c0 h0
        · obtain rfl : n = 0 := by omega
          have e : dec 0 = [UInt8.ofNat (48 + 0)] := Lib.decDigits_one (by omega)
          rw [e] at hh
          simp at hh
theorem stop_sp (x m : List UInt8) : stop ((32 :: x) ++ m) := ⟨rfl, rfl⟩
theorem lex_spx {x y : List UInt8} {bs cs : List Tk} (h : Lexes pd x bs) (k : Lexes pd y cs) : Lexes pd (x ++ 32 :: y) (bs ++ cs) := lex_app pd h (lex_sp pd k) fun m _ => stop_sp y m
theorem lex_part (p : Nat × Nat) (h : p.1 ≤ 9999999 ∧ p.2 ≤ 9999999) : Lexes pd (part p) [N p.1, N p.2] := lex_sp pd (lex_spx pd ((isT_num pd p.1 h.1).lex pd) ((isT_num pd p.2 h.2).lex pd))
theorem lex_more : ∀ (r : List (Nat × Nat)), (∀ p ∈ r, p.1 ≤ 9999999 ∧ p.2 ≤ 9999999) → Lexes pd (r.flatMap fun q => 44 :: part q) (r.flatMap fun q => [S 44, N q.1, N q.2]) ∧ ∀ m, stop m → stop ((r.flatMap fun q => 44 :: part q) ++ m)
  | [], _ => ⟨lex_nil pd, fun m hm => hm⟩
  | p :: r, h => by
    obtain ⟨i1, i2⟩ := lex_more r fun q hq => h q (by simp [hq])
    refine ⟨?_, fun m _ => by simp [stop]; decide⟩
    rw [List.flatMap_cons, List.flatMap_cons]
    refine lex_app pd ?_ i1 i2
    have h1 : Lexes pd ([44] ++ part p) ([S 44] ++ [N p.1, N p.2]) := lex_app pd ((isT_sign pd 44 (.inl rfl)).lex pd) (lex_part pd p (h p (by simp))) fun m _ => by unfold part; exact stop_sp _ _
    exact h1
theorem lex_parts (l : List (Nat × Nat)) (h : ∀ p ∈ l, p.1 ≤ 9999999 ∧ p.2 ≤ 9999999) : Lexes pd (partsT l) (partsK l) ∧ ∀ m, stop m → stop (partsT l ++ m) := by
  rcases l with _ | ⟨p, r⟩
  · exact ⟨lex_nil pd, fun m hm => hm⟩
  · obtain ⟨i1, i2⟩ := lex_more pd r fun q hq => h q (by simp [hq])
    refine ⟨lex_app pd (lex_part pd p (h p (by simp))) i1 i2, fun m _ => ?_⟩
    exact ⟨rfl, rfl⟩
variable (dt : Int → List UInt8) (dr : Int → Prop)
/-- days' texts are days' tokens -/
def DayT : Prop := ∀ d, dr d → isT pd (dt d) (D dt d)
theorem lex_days (hd : DayT pd dt dr) : ∀ (l : List Int), (∀ d ∈ l, dr d) → Lexes pd (l.flatMap fun d => 32 :: dt d) (l.map (D dt)) ∧ ∀ m, stop m → stop ((l.flatMap fun d => 32 :: dt d) ++ m)
  | [], _ => ⟨lex_nil pd, fun m hm => hm⟩
  | d :: r, h => by
    obtain ⟨i1, i2⟩ := lex_days hd r fun q hq => h q (by simp [hq])
    refine ⟨?_, fun m _ => by simp [stop]; decide⟩
    have h1 := lex_app pd (lex_sp pd ((hd d (h d (by simp))).lex pd)) i1 i2
    simpa using h1
theorem word_low (k : Nat) : ∀ b ∈ word k, low b = true := by
  intro b hb
  have : ∀ w ∈ words, ∀ b ∈ w, low b = true := by decide
  unfold word at hb
  by_cases h : k < words.length
  · rw [List.getD_eq_getElem?_getD, List.getElem?_eq_getElem h] at hb
    exact this _ (List.getElem_mem h) b hb
  · rw [List.getD_eq_getElem?_getD, List.getElem?_eq_none (by omega)] at hb
    simp at hb
theorem link_low (k : Nat) : ∀ b ∈ link k, low b = true := by
  intro b hb
  have : ∀ w ∈ links, ∀ b ∈ w, low b = true := by decide
  unfold link at hb
  by_cases h : k < links.length
  · rw [List.getD_eq_getElem?_getD, List.getElem?_eq_getElem h] at hb
    exact this _ (List.getElem_mem h) b hb
  · rw [List.getD_eq_getElem?_getD, List.getElem?_eq_none (by omega)] at hb
    simp at hb
theorem word_ne (k : Nat) (h : k < 8) : word k ≠ [] := by
  have : ∀ k < 8, word k ≠ [] := by decide
  exact this k h
theorem link_ne (k : Nat) (h : k < 8) (h1 : k ≠ 1) : link k ≠ [] := by
  have : ∀ k < 8, k ≠ 1 → link k ≠ [] := by decide
  exact this k h h1
theorem lex_link (k : Nat) (h : k < 8) (h1 : k ≠ 1) : Lexes pd (link k) [W (link k)] := (isT_word pd _ (link_ne k h h1) (link_low k)).lex pd
/-- what stands behind the word, up to the end -/
def body (o : Op) : List UInt8 :=
  if o.kind = 1 then 32 :: (dec o.fr ++ ([32, 34] ++ (o.name ++ [34])))
  else if o.kind = 4 then 32 :: (dec o.fr ++ (32 :: (link 4 ++ partsT o.parts)))
  else if o.kind = 7 then (o.starts.flatMap fun d => 32 :: dt d) ++ (32 :: (link 7 ++ (32 :: dt o.fin)))
  else 32 :: (dec o.fr ++ (32 :: (link o.kind ++ (32 :: dec o.too))))
def bodyK (o : Op) : List Tk :=
  if o.kind = 1 then [N o.fr, T o.name]
  else if o.kind = 4 then N o.fr :: W (link 4) :: partsK o.parts
  else if o.kind = 7 then o.starts.map (D dt) ++ [W (link 7), D dt o.fin]
  else [N o.fr, W (link o.kind), N o.too]
theorem text_body (o : Op) : text dt o = word o.kind ++ (body dt o ++ [59]) := by
  unfold text body
  by_cases h1 : o.kind = 1
  · rw [if_pos h1, if_pos h1, h1]; simp
  · by_cases h4 : o.kind = 4
    · rw [if_neg h1, if_neg h1, if_pos h4, if_pos h4, h4]; simp
    · by_cases h7 : o.kind = 7
      · rw [if_neg h1, if_neg h1, if_neg h4, if_neg h4, if_pos h7, if_pos h7, h7]; simp
      · rw [if_neg h1, if_neg h1, if_neg h4, if_neg h4, if_neg h7, if_neg h7]; simp
theorem toks_body (o : Op) : toks dt o = W (word o.kind) :: (bodyK dt o ++ [S 59]) := by
  unfold toks bodyK
  by_cases h1 : o.kind = 1
  · rw [if_pos h1, if_pos h1, h1]; rfl
  · by_cases h4 : o.kind = 4
    · rw [if_neg h1, if_neg h1, if_pos h4, if_pos h4, h4]; rfl
    · by_cases h7 : o.kind = 7
      · rw [if_neg h1, if_neg h1, if_neg h4, if_neg h4, if_pos h7, if_pos h7, h7]; simp
      · rw [if_neg h1, if_neg h1, if_neg h4, if_neg h4, if_neg h7, if_neg h7]; rfl
theorem lex_body (hd : DayT pd dt dr) (o : Op) (ho : o.ok dr) : Lexes pd (body dt o) (bodyK dt o) ∧ ∀ m, stop (body dt o ++ 59 :: m) := by
  unfold body bodyK
  by_cases h1 : o.kind = 1
  · rw [if_pos h1, if_pos h1]
    exact ⟨lex_sp pd (lex_spx pd ((isT_num pd _ ho.fr).lex pd) ((isT_text pd o.name ho.name).lex pd)), fun m => ⟨rfl, rfl⟩⟩
  · by_cases h4 : o.kind = 4
    · rw [if_neg h1, if_neg h1, if_pos h4, if_pos h4]
      have hp := lex_parts pd o.parts ho.parts
      exact ⟨lex_sp pd (lex_spx pd ((isT_num pd _ ho.fr).lex pd) (lex_app pd (lex_link pd 4 (by omega) (by omega)) hp.1 hp.2)), fun m => ⟨rfl, rfl⟩⟩
    · by_cases h7 : o.kind = 7
      · rw [if_neg h1, if_neg h1, if_neg h4, if_neg h4, if_pos h7, if_pos h7]
        have hp := lex_days pd dt dr hd o.starts ho.starts
        have hf := (hd o.fin (ho.fin h7)).lex pd
        have hb := lex_sp pd (lex_spx pd (lex_link pd 7 (by omega) (by omega)) hf)
        refine ⟨lex_app pd hp.1 hb fun m _ => stop_sp _ m, fun m => ?_⟩
        rcases o.starts with _ | ⟨d, r⟩
        · exact ⟨rfl, rfl⟩
        · exact ⟨rfl, rfl⟩
      · rw [if_neg h1, if_neg h1, if_neg h4, if_neg h4, if_neg h7, if_neg h7]
        exact ⟨lex_sp pd (lex_spx pd ((isT_num pd _ ho.fr).lex pd) (lex_spx pd (lex_link pd _ ho.kind h1) ((isT_num pd _ ho.too).lex pd))), fun m => ⟨rfl, rfl⟩⟩
theorem split_sign (c : UInt8) (h : c = 44 ∨ c = 59) (m : List UInt8) (i : Nat) : split pd (c :: m) i = consE ((S c).put i) (split pd m (i + 1)) := by
  have h1 : one pd (c :: m) = .ok (S c, 1) := by
    unfold one
    simp only [List.getD_cons_zero, List.drop_succ_cons, List.drop_zero]
    rw [if_neg (by rcases h with rfl | rfl <;> decide), if_neg (by rcases h with rfl | rfl <;> decide), if_neg (by rcases h with rfl | rfl <;> decide), if_pos h]
    rfl
  rw [split_one pd c m i _ _ (by rintro rfl; exact absurd h (by decide)) (by rintro rfl; exact absurd h (by decide)) (by rintro rfl; exact absurd h (by decide)) h1]
  rfl
/-- an op's text has its tokens, the first where it begins; behind it the text goes on -/
theorem split_text (hd : DayT pd dt dr) (o : Op) (ho : o.ok dr) (m : List UInt8) (i : Nat) :
    ∃ ts, ts.map Tk.bare = toks dt o ∧ (ts.headD tk0).pos = i ∧ split pd (text dt o ++ m) i = prep ts (split pd m (i + (text dt o).length)) := by
  have hb := lex_body pd dt dr hd o ho
  have hw := (isT_word pd _ (word_ne o.kind ho.kind) (word_low o.kind)).split pd (body dt o ++ 59 :: m) i (hb.2 m)
  obtain ⟨ts, h1, h2⟩ := hb.1 (59 :: m) (i + (word o.kind).length) (stop_cons 59 (by decide) m)
  refine ⟨(W (word o.kind)).put i :: (ts ++ [(S 59).put (i + (word o.kind).length + (body dt o).length)]), ?_, rfl, ?_⟩
  · rw [toks_body, List.map_cons, List.map_append, h1]; rfl
  · rw [text_body, List.append_assoc, List.append_assoc, show [59] ++ m = 59 :: m from rfl, hw, h2, split_sign pd 59 (.inr rfl), consE_prep, consE_prep, prep_prep, prep_prep]
    have e : i + (word o.kind ++ (body dt o ++ [59])).length = i + (word o.kind).length + (body dt o).length + 1 := by
      rw [List.length_append, List.length_append, List.length_singleton]
      omega
    rw [e]
    simp
end
end Sc
end Go.Proofs.YtbhjkddjgikaiaaGreatDoor

namespace Go.Proofs.YtbhjkddjgikaiaaGreatDoor
open Go.RowKit
set_option linter.unusedVariables false
set_option linter.unusedSimpArgs false

/-- what Split answers -/
def spR (w' : World) (B : Nat) : Except (Nat × Nat) (List Lx.Tk) → Value → Prop
  | .ok ts, r => ∃ v, r = .tuple #[v, .int .i64 0, .int .i64 0] ∧ w'.ownsRow B 113 5 v ts.length (tks ts)
  | .error (p, e), r => r = .tuple #[.slice none 0 0, .int .i64 (p : Int), .int .i64 (e : Int)]
theorem append_tk (W : World) (B : Nat) (ty : TypeId) (v : Value) (ts : List Lx.Tk) (hown : W.ownsRow B 113 5 v ts.length (tks ts)) (g : Nat) (t : Lx.Tk) (RG : Row W g (tk t).toArray 113) (hn : ts.length ≤ 1000000) (hB : B ≤ W.heap.size) :
    ∃ v' w', (Builtin.append_ #[102, 102] ty #[v, .slice (some ⟨g, 0, none⟩) 1 1]).run Tryz.prog W = .ok v' w' ∧ w'.ownsRow B 113 5 v' (ts.length + 1) (tks (ts ++ [t])) ∧ Below B W w' := by
  obtain ⟨i, hi, h1, h2, h3⟩ := info_tk
  obtain ⟨v', w', hr, k2, k3, k4, k5⟩ := run_append_own_at (P := Tryz.prog) W B 102 ty 113 i (.agg (tk Lx.tk0).toArray) 5 48 Tryz.underlying102 hi h1 h2 h3 rfl (by omega) v ts.length (tks ts) hown ⟨g, 0, none⟩ 1 1 (tk t) rfl (fun j u hj => by
    rw [addr_add, Nat.zero_add, RG.cell j]
    simpa using hj) (tk_all t) (by unfold maxLen; omega) (by omega) hB
  refine ⟨v', w', hr, by rw [tks_app]; simpa [tks] using k2, (Below.refl B W).grown k3 hB ?_⟩
  intro k hk
  exact (ownW_lt hown hk).1
/-- the text from a place on, and its first byte -/
theorem drop_at (l : List UInt8) (i : Nat) (h : i < l.length) : l.drop i = l.getD i 0 :: l.drop (i + 1) := by
  rw [List.drop_eq_getElem_cons h, List.getD_eq_getElem?_getD, List.getElem?_eq_getElem h]
  rfl
theorem note_len (l : List UInt8) (i j : Nat) (h0 : i ≤ j) (h1 : j ≤ l.length) (h2 : ∀ k, i ≤ k → k < j → Lx.note (l.getD k 0) = true) (h3 : j < l.length → Lx.note (l.getD j 0) = false) : Lx.run Lx.note (l.drop i) = j - i := by
  have g : ∀ k, (l.drop i).getD k 0 = l.getD (i + k) 0 := fun k => by rw [List.getD_eq_getElem?_getD, List.getElem?_drop, ← List.getD_eq_getElem?_getD]
  refine Lx.run_at _ _ _ (by rw [List.length_drop]; omega) (fun k hk => ?_) (fun hk => ?_)
  · rw [g]; exact h2 (i + k) (by omega) (by omega)
  · rw [g, show i + (j - i) = j by omega]
    rw [List.length_drop] at hk
    exact h3 (by omega)
/-- a token more is gone over -/
theorem prep_snoc (ts : List Lx.Tk) (t : Lx.Tk) (r : Except (Nat × Nat) (List Lx.Tk)) : Sc.prep ts (Lx.consE t r) = Sc.prep (ts ++ [t]) r := by rw [Sc.consE_prep, Sc.prep_prep]
set_option maxHeartbeats 8000000 in
set_option maxRecDepth 100000 in
theorem splitL_any (s : ByteArray) (l : List UInt8) (hl : l = s.data.toList) (hs : l.length ≤ 65536) (w : World) (hM : Glb5 w) :
    Calls Tryz.prog 47 #[.string s] w fun e w' => (∃ r, e = .returned r ∧ spR w' w.heap.size (Lx.split Dy.parse l 0) r) ∧ Below w.heap.size w w' := by
  have hsz : s.size = l.length := by rw [hl]; exact size_data s
  have hg : ∀ i (h : i < s.size), (s[i]'h).toNat = (l.getD i 0).toNat := fun i h => by rw [hl, get_data]
  have q0 : ¬ (65536 : Int) < (s.size : Int) := by omega
  have hone : ∀ i, i < l.length → ∀ W, Glb5 W → Calls Tryz.prog 94 #[.string (s.extract i s.size)] W fun e w' => e = .returned (exV (Lx.one Dy.parse (l.drop i))) ∧ Below W.heap.size W w' := fun i hi W hW =>
    one_any (s.extract i s.size) (l.drop i) (by rw [Lib.extract_data, ← hl, List.take_of_length_le (by rw [List.length_drop]; omega)]) (by rw [List.length_drop]; omega) (by rw [List.length_drop]; omega) W hW
  have HS := Lib.hid (And.intro hsz hs)
  have HG := Lib.hid hg
  have HO := Lib.hid hone
  have HM := Lib.hid hM
  clear hsz hs hg hl hM hone
  go_enter Tryz.func47, Tryz.ntmps47
  go_wp2_with fail
  go_step3
  go_wp2_with fail
  go_step3
  go_wp2_with fail
  go_loopw [5, 6] (fun ov iv wr => ∃ (ts : List Lx.Tk) (i : Nat), i ≤ l.length ∧ iv = .int .i64 (i : Int) ∧ wr.ownsRow w.heap.size 113 5 ov ts.length (tks ts) ∧ Sc.prep ts (Lx.split Dy.parse (l.drop i) i) = Lx.split Dy.parse l 0 ∧ ts.length ≤ i ∧ Below w.heap.size w wr) (fun _ iv _ => l.length - (intOf iv).toNat)
  case atStart => exact ⟨[], 0, by omega, rfl, ⟨rfl, .inl ⟨rfl, rfl⟩⟩, by rw [Sc.prep_nil]; rfl, by simp, Below.refl _ _⟩
  case round =>
    obtain ⟨ts, i, hi, rfl, hown, hpre, htl, BB⟩ := hrel
    have HOWN := Lib.hid hown
    have HP := Lib.hid hpre
    have HT := Lib.hid htl
    have HBB := Lib.hid BB
    clear hown hpre htl BB
    by_cases hlt : i < l.length
    · have i1 : (i : Int) < (s.size : Int) := by have := HS.out.1; omega
      have i0 : (0 : Int) ≤ (i : Int) := by omega
      have i2 : i < s.size := by have := HS.out.1; omega
      have gi : ∀ h : i < s.size, (s[i]'h).toNat = (l.getD i 0).toNat := fun h => HG.out i h
      have HD := Lib.hid (drop_at l i hlt)
      have e1 : IntKind.i64.wrap ((i : Int) + 1) = (i : Int) + 1 := by have := HS.out; rw [IntKind.wrap_i64]; omega
      have HI := Lib.hid hlt
      by_cases c1 : l.getD i 0 = 32 ∨ l.getD i 0 = 10
      · have HP2 : Hid (Sc.prep ts (Lx.split Dy.parse (l.drop (i + 1)) (i + 1)) = Lx.split Dy.parse l 0) := Lib.hid (by rw [← HP.out, HD.out, Lx.split_blank _ _ _ _ c1])
        have hb : (l.getD i 0).toNat = 32 ∨ (l.getD i 0).toNat = 10 := by rcases c1 with h | h <;> rw [h]; exact .inl rfl; exact .inr rfl
        clear c1 hlt hi
        generalize (l.getD i 0).toNat = b at *
        rcases hb with rfl | rfl
        all_goals
          go_wp2_with fail
          exact ⟨⟨ts, i + 1, by have := HI.out; omega, by simp, HOWN.out, HP2.out, by have := HT.out; omega, HBB.out⟩, by have := HI.out; simp [intOf]; omega⟩
      · by_cases c2 : l.getD i 0 = 35
        · have hb : (l.getD i 0).toNat = 35 := by rw [c2]; rfl
          rw [hb] at gi
          have HC := Lib.hid c2
          clear c1 c2 hlt hi hb
          go_wp2_with fail
          obtain ⟨wo, rfl⟩ : ∃ wo : World, wo = wr := ⟨_, rfl⟩
          have HW := Lib.hid (Eq.refl wo)
          clear gi i0 i1 i2 e1
          go_loopw [6] (fun iv wr' => ∃ j : Nat, i ≤ j ∧ j ≤ l.length ∧ iv = .int .i64 (j : Int) ∧ (∀ k, i ≤ k → k < j → Lx.note (l.getD k 0) = true) ∧ wr' = wo) (fun iv _ => l.length - (intOf iv).toNat)
          case atStart => exact ⟨i, by omega, by have := HI.out; omega, rfl, fun k h1 h2 => by omega, rfl⟩
          case round =>
            obtain ⟨j, hij, hj, rfl, hn, rfl⟩ := hrel
            have HN := Lib.hid hn
            have HIJ := Lib.hid (And.intro hij hj)
            clear hn hij
            have done : (j < l.length → Lx.note (l.getD j 0) = false) → i < j ∧ Sc.prep ts (Lx.split Dy.parse (l.drop j) j) = Lx.split Dy.parse l 0 := fun h => by
              have hr := note_len l i j HIJ.out.1 HIJ.out.2 HN.out h
              have hc := HC.out
              have hlt := HI.out
              have hd := HD.out
              rw [hc] at hd
              have hp : 0 < Lx.run Lx.note (l.drop i) := by rw [hd, Lx.run_cons, if_pos (by decide)]; omega
              refine ⟨by omega, ?_⟩
              rw [← HP.out, hd, Lx.split_note, ← hd, hr, List.drop_drop, show i + (j - i) = j by omega]
            have HDN := Lib.hid done
            clear done
            by_cases hjl : j < l.length
            · have j1 : (j : Int) < (s.size : Int) := by have := HS.out.1; omega
              have j0 : (0 : Int) ≤ (j : Int) := by omega
              have j2 : j < s.size := by have := HS.out.1; omega
              have gj : ∀ h : j < s.size, (s[j]'h).toNat = (l.getD j 0).toNat := fun h => HG.out j h
              have e1 : IntKind.i64.wrap ((j : Int) + 1) = (j : Int) + 1 := by have := HS.out; rw [IntKind.wrap_i64]; omega
              have HJ := Lib.hid hjl
              by_cases c3 : l.getD j 0 = 10
              · have hb : (l.getD j 0).toNat = 10 := by rw [c3]; rfl
                rw [hb] at gj
                have hd := HDN.out fun _ => by rw [c3]; rfl
                have HD2 := Lib.hid hd
                clear c3 hb hd hjl hj
                go_wp2_with fail
                exact ⟨⟨ts, j, by have := HJ.out; omega, rfl, HOWN.out, HD2.out.2, by have := HT.out; have := HD2.out.1; omega, HBB.out⟩, by have := HD2.out.1; have := HJ.out; simp [intOf]; omega⟩
              · have hb : (((l.getD j 0).toNat : Int) != 10) = true := bne_iff_ne.2 fun e => c3 (UInt8.toNat.inj (by show _ = 10; omega))
                have hn2 : Lx.note (l.getD j 0) = true := by unfold Lx.note; rw [beq_eq_false_iff_ne.2 c3]; rfl
                have HN2 := Lib.hid hn2
                generalize (l.getD j 0).toNat = b at *
                clear c3 hn2 hjl hj
                go_wp2_with fail
                refine ⟨⟨j + 1, by have := HIJ.out.1; omega, HJ.out, by simp, fun k h1 h2 => ?_, by first | rfl | trivial⟩, by have := HJ.out; simp [intOf]; omega⟩
                by_cases e : k < j
                · exact HN.out k h1 e
                · obtain rfl : k = j := by omega
                  exact HN2.out
            · obtain rfl : j = l.length := by omega
              have j1 : ¬ (l.length : Int) < (s.size : Int) := by have := HS.out.1; omega
              have hd := HDN.out fun h => absurd h hjl
              have HD2 := Lib.hid hd
              clear hd hjl hj
              go_wp2_with fail
              exact ⟨⟨ts, l.length, by omega, rfl, HOWN.out, HD2.out.2, by have := HT.out; have := HD2.out.1; omega, HBB.out⟩, by have := HD2.out.1; simp [intOf]; omega⟩
        · have k32 : (((l.getD i 0).toNat : Int) == 32) = false := beq_eq_false_iff_ne.2 fun e => c1 (.inl (UInt8.toNat.inj (by show _ = 32; omega)))
          have k10 : (((l.getD i 0).toNat : Int) == 10) = false := beq_eq_false_iff_ne.2 fun e => c1 (.inr (UInt8.toNat.inj (by show _ = 10; omega)))
          have k35 : (((l.getD i 0).toNat : Int) == 35) = false := beq_eq_false_iff_ne.2 fun e => c2 (UInt8.toNat.inj (by show _ = 35; omega))
          have h1 : l.getD i 0 ≠ 32 := fun e => c1 (.inl e)
          have h2 : l.getD i 0 ≠ 10 := fun e => c1 (.inr e)
          have hx := HO.out i hlt
          rcases hone : Lx.one Dy.parse (l.drop i) with e | ⟨t, n⟩
          · rw [hone] at hx
            have HX := Lib.hid (hx wr (HM.out.below HBB.out))
            rw [HD.out] at hone
            have hsp := Lx.split_err Dy.parse _ _ i e h1 h2 c2 hone
            have HE : Hid (Lx.split Dy.parse l 0 = .error (i, e)) := Lib.hid (by rw [← HP.out, HD.out, hsp]; rfl)
            have he0 : ((e : Int) != 0) = true := bne_iff_ne.2 (by have := Lx.one_err Dy.parse _ e hone; omega)
            generalize (l.getD i 0).toNat = b at *
            clear hx hone hsp c1 c2 h1 h2 hlt hi
            unfold exV at HX
            go_wp2_with fail
            refine HX.out.mono ?_
            rintro _ w1 ⟨rfl, hb1⟩
            have HB1 := Lib.hid (below_then HBB.out hb1)
            clear hb1
            go_wp2_with (first | (refine ev_alloc rfl rfl 113 rfl _ zero_tk ?_; intro g w2 hg R1 B1) | (refine ev_store rfl 113 _ _ rfl g (tk Lx.tk0).toArray rfl rfl R1 (tk_info _) rfl (tk_one _) rfl ?_; intro w9 RZ S9))
            have HB2 := Lib.hid (S9.below (below_then HB1.out B1) (Nat.le_trans HB1.out.size hg))
            rw [Exit.noGoto_ret]
            exact bodyPost_ret (v := .tuple #[.slice none 0 0, .int .i64 (i : Int), .int .i64 (e : Int)]) (by simp [results, Tryz.results47, go_sem]) rfl ⟨⟨_, rfl, by rw [HE.out]; rfl⟩, HB2.out⟩
          · have hnl := Lx.one_len Dy.parse _ (by rw [List.length_drop]; omega) t n hone
            rw [List.length_drop] at hnl
            rw [hone] at hx
            have HX := Lib.hid (hx wr (HM.out.below HBB.out))
            rw [HD.out] at hone
            have hsp := Lx.split_one Dy.parse _ _ i t n h1 h2 c2 hone
            rw [← HD.out, List.drop_drop] at hsp
            have HE : Hid (Sc.prep (ts ++ [t.put i]) (Lx.split Dy.parse (l.drop (i + n)) (i + n)) = Lx.split Dy.parse l 0) := Lib.hid (by rw [← HP.out, hsp, prep_snoc])
            have e2 : IntKind.i64.wrap ((i : Int) + (n : Int)) = (i : Int) + (n : Int) := by have := HS.out; rw [IntKind.wrap_i64]; omega
            have HNL := Lib.hid hnl
            generalize (l.getD i 0).toNat = b at *
            clear hx hone hsp c1 c2 h1 h2 hlt hi hnl
            unfold exV at HX
            go_wp2_with fail
            refine HX.out.mono ?_
            rintro _ w1 ⟨rfl, hb1⟩
            have HB1 := Lib.hid (below_then HBB.out hb1)
            have HO1 := Lib.hid (ownW_below HOWN.out hb1)
            clear hb1
            dsimp only
            have hlt1 := fun k hk => (ownW_lt HO1.out hk : _ ≤ k ∧ k < w1.heap.size)
            have HLT := Lib.hid hlt1
            have HNN := Lib.hid (show ts.length ≤ 65536 by have := HT.out; have := HI.out; have := HS.out; omega)
            clear hlt1
            have hAPP : ∀ (g : Nat) (w2 w9 : World), w1.heap.size ≤ g → Below w1.heap.size w1 w2 → Stored w2 g w9 → Row w9 g (tk t).toArray 113 → ∃ v6 w6, (Builtin.append_ #[102, 102] 102 #[u5, .slice (some ⟨w9.heap.size, 0, none⟩) 1 1]).run Tryz.prog ((w9.setCell ⟨g, 4, none⟩ (.int .i64 (i : Int))).alloc (.cells #[.int .i64 (t.kind : Int), .string ⟨t.text.toArray⟩, .int .i64 t.num, .int .i32 t.day, .int .i64 (i : Int)] 113)) = .ok v6 w6 ∧ w6.ownsRow w.heap.size 113 5 v6 (ts.length + 1) (tks (ts ++ [t.put i])) ∧ Below w.heap.size w w6 := fun g w2 w9 hg B1 S9 RZ => by
              have st := S9.trans (stored_setCell w9 g 4 (.int .i64 (i : Int)))
              have os := ownW_stored (ownW_below HO1.out B1) st (fun e => by have := HLT.out g e; omega)
              have hB := st.below (below_then HB1.out B1) (Nat.le_trans HB1.out.size hg)
              have hsz : (w9.setCell ⟨g, 4, none⟩ (.int .i64 (i : Int))).heap.size = w9.heap.size := by simp [World.setCell]
              obtain ⟨v6, w6, hr, h1, h2⟩ := append_tk ((w9.setCell ⟨g, 4, none⟩ (.int .i64 (i : Int))).alloc (.cells #[.int .i64 (t.kind : Int), .string ⟨t.text.toArray⟩, .int .i64 t.num, .int .i32 t.day, .int .i64 (i : Int)] 113)) w.heap.size 102 u5 ts (own_alloc os _) w9.heap.size (t.put i) (Row.new' _ _ _ hsz.symm) (by have := HNN.out; omega) (by have := hB.size; simp; omega)
              exact ⟨v6, w6, hr, h1, (below_alloc hB _).trans h2⟩
            have HAPP := Lib.hid hAPP
            clear hAPP
            go_wp2_with (first
              | (refine ev_alloc rfl rfl 113 rfl _ zero_tk ?_; intro g w2 hg R1 B1)
              | (refine ev_store rfl 113 _ _ rfl g (tk t).toArray rfl rfl R1 (tk_info _) rfl (tk_one _) rfl ?_; intro w9 RZ S9; have f4 : w9.cell? ⟨g, 4, none⟩ = some (.int .i64 (t.pos : Int)) := RZ.cell 4; have z4 : w9.frozen? ⟨g, 4, none⟩ = false := RZ.frozen 4; have RS : Row (w9.setCell ⟨g, 4, none⟩ (.int .i64 (i : Int))) g #[.int .i64 (t.kind : Int), .string ⟨t.text.toArray⟩, .int .i64 t.num, .int .i32 t.day, .int .i64 (i : Int)] 113 := RZ.set 4 _; obtain ⟨v6, w6, hr6, ho6, hb6⟩ := HAPP.out g w2 w9 hg B1 S9 RZ; have HR6 := Lib.hid hr6; have HO6 := Lib.hid ho6; have HB6 := Lib.hid hb6; clear hr6 ho6 hb6)
              | (refine ev_load rfl rfl 113 (Operand.tmp 7) rfl g rfl RS _ Tryz.underlying113 rfl (tk_info (t.put i)) ?_)
              | (at_builtin; refine ev_run rfl (run_app_op _ _ _ _ rfl rfl rfl HR6.out) ?_))
            have hlen : (ts ++ [t.put i]).length = ts.length + 1 := by simp
            exact ⟨⟨ts ++ [t.put i], i + n, by have := HNL.out; have := HI.out; omega, by simp, by rw [hlen]; exact HO6.out, HE.out, by rw [hlen]; have := HNL.out; have := HT.out; omega, HB6.out⟩, by have := HNL.out; have := HI.out; simp [intOf]; omega⟩
    · obtain rfl : i = l.length := by omega
      have i1 : ¬ (l.length : Int) < (s.size : Int) := by have := HS.out.1; omega
      have hE : Sc.prep ts (.ok [Lx.tk0.put l.length]) = Lx.split Dy.parse l 0 := by
        have := HP.out
        rwa [List.drop_length, Lx.split_nil] at this
      have HE := Lib.hid hE
      have hss : (s.size : Int) = (l.length : Int) := by have := HS.out.1; omega
      obtain ⟨v6, w6, hr6, ho6, hb6⟩ := append_tk (wr.alloc (.cells #[.int .i64 0, .string ⟨#[]⟩, .int .i64 0, .int .i32 0, .int .i64 (s.size : Int)] 113)) w.heap.size 102 u5 ts (own_alloc HOWN.out _) wr.heap.size (Lx.tk0.put l.length) (by rw [hss]; exact Row.new wr _ _) (by have := HT.out; have := HS.out; omega) (by have := HBB.out.size; simp; omega)
      have HR6 := Lib.hid hr6
      have HO6 := Lib.hid ho6
      have HB6 := Lib.hid ((below_alloc HBB.out _).trans hb6)
      clear hr6 ho6 hb6 hE hlt hi hss
      go_wp2_with (first | (at_builtin; refine ev_run rfl (run_app_op _ _ _ _ rfl rfl rfl HR6.out) ?_))
      refine bodyPost_ret (v := .tuple #[v6, .int .i64 0, .int .i64 0]) (by simp [results, Tryz.results47, go_sem]) rfl ⟨⟨_, rfl, ?_⟩, HB6.out⟩
      rw [← HE.out]
      exact ⟨_, rfl, by simpa using HO6.out⟩
/-- what Split answers of any text -/
def lexSplit (l : List UInt8) : Except (Nat × Nat) (List Lx.Tk) := if 65536 < l.length then .error (0, 2) else Lx.split Dy.parse l 0
set_option maxHeartbeats 1000000 in
theorem split_any (s : ByteArray) (l : List UInt8) (hl : l = s.data.toList) (w : World) (hM : Glb5 w) :
    Calls Tryz.prog 47 #[.string s] w fun e w' => (∃ r, e = .returned r ∧ spR w' w.heap.size (lexSplit l) r) ∧ Below w.heap.size w w' := by
  unfold lexSplit
  by_cases h : 65536 < l.length
  · rw [if_pos h]
    have hsz : s.size = l.length := by rw [hl]; exact size_data s
    have q0 : (65536 : Int) < (s.size : Int) := by omega
    clear h hsz hl hM
    go_enter Tryz.func47, Tryz.ntmps47
    go_wp2_with fail
    go_step3
    go_wp2_with fail
    try rw [Exit.noGoto_ret]
    exact bodyPost_ret (v := .tuple #[.slice none 0 0, .int .i64 0, .int .i64 2]) (by simp [results, Tryz.results47, go_sem]) rfl ⟨⟨_, rfl, rfl⟩, Below.refl _ _⟩
  · rw [if_neg h]
    exact splitL_any s l hl (by omega) w hM
end Go.Proofs.YtbhjkddjgikaiaaGreatDoor

namespace Go.Proofs.YtbhjkddjgikaiaaGreatDoor
open Go.RowKit
set_option linter.unusedVariables false
set_option linter.unusedSimpArgs false

def letters : ByteArray := ⟨#[97, 98, 99, 100, 101, 102, 103, 104, 105, 106, 107, 108, 109, 110, 111, 112, 113, 114, 115, 116, 117, 118, 119, 120, 121, 122]⟩
def digits : ByteArray := ⟨#[48, 49, 50, 51, 52, 53, 54, 55, 56, 57, 45]⟩
theorem by_bytes (p q : UInt8 → Bool) (h : ((List.range 256).all fun n => p (UInt8.ofNat n) == q (UInt8.ofNat n)) = true) (b : UInt8) : p b = q b := by
  have := List.all_eq_true.1 h b.toNat (by simpa using b.toNat_lt)
  rw [show UInt8.ofNat b.toNat = b by simp] at this
  simpa using this
theorem letters_low (b : UInt8) : decide (0 ≤ Lib.indexByte letters.data.toList b) = Lx.low b := by_bytes (fun b => decide (0 ≤ Lib.indexByte letters.data.toList b)) Lx.low (by decide +kernel) b
theorem digits_dgt (b : UInt8) : decide (0 ≤ Lib.indexByte digits.data.toList b) = Lx.dgt b := by_bytes (fun b => decide (0 ≤ Lib.indexByte digits.data.toList b)) Lx.dgt (by decide +kernel) b
theorem run_zero (p : UInt8 → Bool) (l : List UInt8) (h0 : 0 < l.length) : (p (l.getD 0 0) = true → 0 < Lx.run p l) ∧ (¬ p (l.getD 0 0) = true → Lx.run p l = 0) := by
  obtain ⟨c, r, rfl⟩ : ∃ c r, l = c :: r := by rcases l with _ | ⟨c, r⟩; simp at h0; exact ⟨c, r, rfl⟩
  rw [Lx.run_cons]
  constructor
  · intro h; rw [if_pos (by simpa using h)]; omega
  · intro h; rw [if_neg (by simpa using h)]
set_option maxHeartbeats 2000000 in
theorem lone_word (s : ByteArray) (l : List UInt8) (hl : l = s.data.toList) (h0 : 0 < l.length) (hs : l.length ≤ 1000000) (hc : Lx.low (l.getD 0 0) = true) (w : World) (hM : Glb5 w) :
    Calls Tryz.prog 102 #[.string s] w fun e w' => e = .returned (exV (Lx.one Dy.parse l)) ∧ Below w.heap.size w w' := by
  have hsz : s.size = l.length := by rw [hl]; exact size_data s
  have p0 : (0 : Int) < (s.size : Int) := by omega
  have p1 : 0 < s.size := by omega
  have g0 : ∀ h : 0 < s.size, (s[0]'h).toNat = (l.getD 0 0).toNat := fun h => by rw [get_data, ← hl]
  have ha := among_any s letters Lx.low letters_low (by omega)
  rw [← hl] at ha
  have hb := among_any s digits Lx.dgt digits_dgt (by omega)
  rw [← hl] at hb
  have HA := Lib.hid ha
  unfold Lx.one
  rw [if_pos hc]
  have hn := Lx.run_le Lx.low l
  have hp := (run_zero Lx.low l h0).1 hc
  generalize Lx.run Lx.low l = n at *
  have n0 : (0 : Int) < (n : Int) := by omega
  have n2 : (0 : Int) ≤ (n : Int) := by omega
  have n1 : (n : Int) ≤ (s.size : Int) := by omega
  have hst : (tk ⟨1, l.take n, 0, 0, 0⟩).toArray = #[.int .i64 1, .string (s.extract 0 n), .int .i64 0, .int .i32 0, .int .i64 0] := by rw [str_take s l hl n]; rfl
  have ST := Lib.hid hst
  have HPO := Lib.hid (show Ending.returned (.tuple #[.agg #[.int .i64 1, .string (s.extract 0 n), .int .i64 0, .int .i32 0, .int .i64 0], .int .i64 (n : Int), .int .i64 0]) = .returned (exV (.ok (⟨1, l.take n, 0, 0, 0⟩, n))) by show _ = Ending.returned (.tuple #[.agg (tk ⟨1, l.take n, 0, 0, 0⟩).toArray, .int .i64 (n : Int), .int .i64 0]); rw [hst])
  generalize (l.getD 0 0).toNat = b at *
  clear hl h0 hs hc hsz hn hst hM ha hb hp
  unfold letters at HA
  go_enter Tryz.func102, Tryz.ntmps102
  go_wp2_with (first | (refine ev_alloc rfl rfl 113 rfl _ zero_tk ?_; intro g w1 hg R1 B1))
  have HB := Lib.hid B1
  clear B1
  refine (HA.out _).mono ?_
  rintro _ w2 ⟨rfl, rfl⟩
  go_wp2_with (first | (refine ev_store rfl 113 _ _ rfl g (tk ⟨1, l.take n, 0, 0, 0⟩).toArray rfl (congrArg Value.agg ST.out.symm) R1 (tk_info _) rfl (tk_one _) rfl ?_; intro w9 RZ S9))
  rw [ST.out] at RZ
  have d0 : w9.cell? ⟨g, 0, none⟩ = some (.int .i64 1) := RZ.cell 0
  have d1 : w9.cell? ⟨g, 1, none⟩ = some (.string (s.extract 0 n)) := RZ.cell 1
  have d2 : w9.cell? ⟨g, 2, none⟩ = some (.int .i64 0) := RZ.cell 2
  have d3 : w9.cell? ⟨g, 3, none⟩ = some (.int .i32 0) := RZ.cell 3
  have d4 : w9.cell? ⟨g, 4, none⟩ = some (.int .i64 0) := RZ.cell 4
  exact bodyPost_ret (v := .tuple #[.agg #[.int .i64 1, .string (s.extract 0 n), .int .i64 0, .int .i32 0, .int .i64 0], .int .i64 (n : Int), .int .i64 0]) (by simp [results, Tryz.results102, go_sem, d0, d1, d2, d3, d4]) rfl ⟨HPO.out, S9.below HB.out hg⟩
set_option maxHeartbeats 2000000 in
/-- digits with a line among them -/
theorem lone_day (s : ByteArray) (l : List UInt8) (hl : l = s.data.toList) (h0 : 0 < l.length) (hs : l.length ≤ 1000000) (hc : ¬ Lx.low (l.getD 0 0) = true) (hd : 48 ≤ (l.getD 0 0).toNat ∧ (l.getD 0 0).toNat ≤ 57) (hm : (45 : UInt8) ∈ l.take (Lx.run Lx.dgt l)) (w : World) (hM : Glb5 w) :
    Calls Tryz.prog 102 #[.string s] w fun e w' => e = .returned (exV (Lx.one Dy.parse l)) ∧ Below w.heap.size w w' := by
  have hsz : s.size = l.length := by rw [hl]; exact size_data s
  have p0 : (0 : Int) < (s.size : Int) := by omega
  have p1 : 0 < s.size := by omega
  have g0 : ∀ h : 0 < s.size, (s[0]'h).toNat = (l.getD 0 0).toNat := fun h => by rw [get_data, ← hl]
  have ha := among_any s letters Lx.low letters_low (by omega)
  rw [← hl] at ha
  have hb := among_any s digits Lx.dgt digits_dgt (by omega)
  rw [← hl] at hb
  rw [(run_zero Lx.low l h0).2 hc] at ha
  have HA := Lib.hid ha
  have HB0 := Lib.hid hb
  unfold Lx.one
  dsimp only
  rw [if_neg hc, if_pos hd]
  have hn := Lx.run_le Lx.dgt l
  have hp := (run_zero Lx.dgt l h0).1 (by simp [Lx.dgt, Lx.inR] at hd ⊢; left; exact hd)
  have b45 : (((l.getD 0 0).toNat : Int) != 45) = true := bne_iff_ne.2 (by omega)
  generalize Lx.run Lx.dgt l = n at *
  have n0 : (0 : Int) < (n : Int) := by omega
  have n2 : (0 : Int) ≤ (n : Int) := by omega
  have n1 : (n : Int) ≤ (s.size : Int) := by omega
  have hct := fun W => contains_any (s.extract 0 n) 45 W
  have hpd := fun W hW => parseD_any (s.extract 0 n) W hW
  have hx : (s.extract 0 n).data.toList = l.take n := by rw [Lib.extract_data, ← hl]; simp
  rw [hx, decide_eq_true hm] at hct
  rw [hx] at hpd
  have HCT := Lib.hid hct
  have HPD := Lib.hid hpd
  have HM := Lib.hid hM
  unfold Lx.number
  rw [if_pos hm]
  have hst : ∀ d, (tk ⟨3, l.take n, 0, d, 0⟩).toArray = #[.int .i64 3, .string (s.extract 0 n), .int .i64 0, .int .i32 d, .int .i64 0] := fun d => by rw [str_take s l hl n]; rfl
  have ST := Lib.hid hst
  have HPO := Lib.hid fun d => (show Ending.returned (.tuple #[.agg #[.int .i64 3, .string (s.extract 0 n), .int .i64 0, .int .i32 d, .int .i64 0], .int .i64 (n : Int), .int .i64 0]) = .returned (exV (.ok (⟨3, l.take n, 0, d, 0⟩, (l.take n).length))) by show _ = Ending.returned (.tuple #[.agg (tk ⟨3, l.take n, 0, d, 0⟩).toArray, .int .i64 ((l.take n).length : Int), .int .i64 0]); rw [hst, List.length_take, Nat.min_eq_left hn])
  generalize (l.getD 0 0).toNat = b at *
  clear hl h0 hs hc hsz hn hst hM ha hb hp hd hct hpd hx hm
  unfold letters at HA
  unfold digits at HB0
  rcases hq : Dy.parse (l.take n) with _ | d
  · rw [hq] at HPD
    clear hq
    unfold ofV at HPD
    show Calls _ _ _ _ fun e w' => e = .returned (.tuple #[.agg #[.int .i64 0, .string ⟨#[]⟩, .int .i64 0, .int .i32 0, .int .i64 0], .int .i64 0, .int .i64 13]) ∧ _
    go_enter Tryz.func102, Tryz.ntmps102
    go_wp2_with (first | (refine ev_alloc rfl rfl 113 rfl _ zero_tk ?_; intro g w1 hg R1 B1))
    refine (HA.out _).mono ?_
    rintro _ w2 ⟨rfl, rfl⟩
    go_wp2_with fail
    refine (HB0.out _).mono ?_
    rintro _ w3 ⟨rfl, rfl⟩
    go_wp2_with fail
    refine (HCT.out _).mono ?_
    rintro _ w4 ⟨rfl, rfl⟩
    go_wp2_with fail
    refine (HPD.out _ (HM.out.below B1)).mono ?_
    rintro _ w5 ⟨rfl, hb2⟩
    have HB := Lib.hid (below_then B1 hb2)
    have R3 := R1.below hb2
    clear hb2 R1 B1
    go_wp2_with (first | (refine ev_store rfl 113 _ _ rfl g (tk Lx.tk0).toArray rfl rfl R3 (tk_info _) rfl (tk_one _) rfl ?_; intro w9 RZ S9))
    have d0 : w9.cell? ⟨g, 0, none⟩ = some (.int .i64 0) := RZ.cell 0
    have d1 : w9.cell? ⟨g, 1, none⟩ = some (.string ⟨#[]⟩) := RZ.cell 1
    have d2 : w9.cell? ⟨g, 2, none⟩ = some (.int .i64 0) := RZ.cell 2
    have d3 : w9.cell? ⟨g, 3, none⟩ = some (.int .i32 0) := RZ.cell 3
    have d4 : w9.cell? ⟨g, 4, none⟩ = some (.int .i64 0) := RZ.cell 4
    exact bodyPost_ret (v := .tuple #[.agg #[.int .i64 0, .string ⟨#[]⟩, .int .i64 0, .int .i32 0, .int .i64 0], .int .i64 0, .int .i64 13]) (by simp [results, Tryz.results102, go_sem, d0, d1, d2, d3, d4]) rfl ⟨rfl, S9.below HB.out hg⟩
  · rw [hq] at HPD
    clear hq
    unfold ofV at HPD
    go_enter Tryz.func102, Tryz.ntmps102
    go_wp2_with (first | (refine ev_alloc rfl rfl 113 rfl _ zero_tk ?_; intro g w1 hg R1 B1))
    refine (HA.out _).mono ?_
    rintro _ w2 ⟨rfl, rfl⟩
    go_wp2_with fail
    refine (HB0.out _).mono ?_
    rintro _ w3 ⟨rfl, rfl⟩
    go_wp2_with fail
    refine (HCT.out _).mono ?_
    rintro _ w4 ⟨rfl, rfl⟩
    go_wp2_with fail
    refine (HPD.out _ (HM.out.below B1)).mono ?_
    rintro _ w5 ⟨rfl, hb2⟩
    have HB := Lib.hid (below_then B1 hb2)
    have R3 := R1.below hb2
    clear hb2 R1 B1
    go_wp2_with (first | (refine ev_store rfl 113 _ _ rfl g (tk ⟨3, l.take n, 0, d, 0⟩).toArray rfl (congrArg Value.agg (ST.out d).symm) R3 (tk_info _) rfl (tk_one _) rfl ?_; intro w9 RZ S9))
    rw [ST.out] at RZ
    have d0 : w9.cell? ⟨g, 0, none⟩ = some (.int .i64 3) := RZ.cell 0
    have d1 : w9.cell? ⟨g, 1, none⟩ = some (.string (s.extract 0 n)) := RZ.cell 1
    have d2 : w9.cell? ⟨g, 2, none⟩ = some (.int .i64 0) := RZ.cell 2
    have d3 : w9.cell? ⟨g, 3, none⟩ = some (.int .i32 d) := RZ.cell 3
    have d4 : w9.cell? ⟨g, 4, none⟩ = some (.int .i64 0) := RZ.cell 4
    exact bodyPost_ret (v := .tuple #[.agg #[.int .i64 3, .string (s.extract 0 n), .int .i64 0, .int .i32 d, .int .i64 0], .int .i64 (n : Int), .int .i64 0]) (by simp [results, Tryz.results102, go_sem, d0, d1, d2, d3, d4]) rfl ⟨HPO.out d, S9.below HB.out hg⟩
set_option maxHeartbeats 4000000 in
set_option maxRecDepth 100000 in
/-- digits alone -/
theorem lone_num (s : ByteArray) (l : List UInt8) (hl : l = s.data.toList) (h0 : 0 < l.length) (hs : l.length ≤ 1000000) (hc : ¬ Lx.low (l.getD 0 0) = true) (hd : 48 ≤ (l.getD 0 0).toNat ∧ (l.getD 0 0).toNat ≤ 57) (hm : (45 : UInt8) ∉ l.take (Lx.run Lx.dgt l)) (w : World) :
    Calls Tryz.prog 102 #[.string s] w fun e w' => e = .returned (exV (Lx.one Dy.parse l)) ∧ Below w.heap.size w w' := by
  have hsz : s.size = l.length := by rw [hl]; exact size_data s
  have p0 : (0 : Int) < (s.size : Int) := by omega
  have p1 : 0 < s.size := by omega
  have g0 : ∀ h : 0 < s.size, (s[0]'h).toNat = (l.getD 0 0).toNat := fun h => by rw [get_data, ← hl]
  have ha := among_any s letters Lx.low letters_low (by omega)
  rw [← hl] at ha
  have hb := among_any s digits Lx.dgt digits_dgt (by omega)
  rw [← hl] at hb
  rw [(run_zero Lx.low l h0).2 hc] at ha
  have HA := Lib.hid ha
  have HB0 := Lib.hid hb
  unfold Lx.one
  dsimp only
  rw [if_neg hc, if_pos hd]
  have hn := Lx.run_le Lx.dgt l
  have hp := (run_zero Lx.dgt l h0).1 (by simp [Lx.dgt, Lx.inR] at hd ⊢; left; exact hd)
  have b45 : (((l.getD 0 0).toNat : Int) != 45) = true := bne_iff_ne.2 (by omega)
  have hall := Lx.mem_take_run Lx.dgt l
  generalize Lx.run Lx.dgt l = n at *
  have n0 : (0 : Int) < (n : Int) := by omega
  have n2 : (0 : Int) ≤ (n : Int) := by omega
  have n1 : (n : Int) ≤ (s.size : Int) := by omega
  have hct := fun W => contains_any (s.extract 0 n) 45 W
  have hx : (s.extract 0 n).data.toList = l.take n := by rw [Lib.extract_data, ← hl]; simp
  rw [hx, decide_eq_false hm] at hct
  have HCT := Lib.hid hct
  obtain ⟨m, hmm⟩ : ∃ m, m = l.take n := ⟨_, rfl⟩
  have hml : m.length = n := by rw [hmm, List.length_take, Nat.min_eq_left hn]
  have h00 : m.getD 0 0 = l.getD 0 0 := by rw [hmm, List.getD_eq_getElem?_getD, List.getElem?_take, if_pos hp, ← List.getD_eq_getElem?_getD]
  rw [← hmm] at hm hall hx ⊢
  unfold Lx.number
  rw [if_neg hm]
  have hts : (s.extract 0 n).size = n := by rw [size_data, hx, hml]
  have htg : ∀ i (h : i < (s.extract 0 n).size), ((s.extract 0 n)[i]'h).toNat = (m.getD i 0).toNat := fun i h => by rw [get_data, hx]
  have hdd : ∀ b ∈ m, 48 ≤ b.toNat ∧ b.toNat ≤ 57 := fun b hx => by
    have h := hall b hx
    have hne : b.toNat ≠ 45 := fun e => hm (by rwa [show b = 45 from UInt8.toNat.inj e] at hx)
    simp [Lx.dgt, Lx.inR] at h
    omega
  have hst : (tk ⟨2, m, Lx.dig m, 0, 0⟩).toArray = #[.int .i64 2, .string (s.extract 0 n), .int .i64 (Lx.dig m), .int .i32 0, .int .i64 0] := by rw [str_take s l hl n, ← hmm]; rfl
  have ST := Lib.hid hst
  have HPO := Lib.hid (show Ending.returned (.tuple #[.agg #[.int .i64 2, .string (s.extract 0 n), .int .i64 (Lx.dig m), .int .i32 0, .int .i64 0], .int .i64 (n : Int), .int .i64 0]) = .returned (exV (.ok (⟨2, m, Lx.dig m, 0, 0⟩, m.length))) by rw [hml]; show _ = Ending.returned (.tuple #[.agg (tk ⟨2, m, Lx.dig m, 0, 0⟩).toArray, .int .i64 (n : Int), .int .i64 0]); rw [hst])
  have HTS := Lib.hid hts
  have HTG := Lib.hid htg
  have HML := Lib.hid hml
  have HD := Lib.hid hdd
  have H00 := Lib.hid (And.intro h00 hp)
  clear hts htg hx hct
  by_cases hb7 : 7 < m.length ∨ (1 < m.length ∧ m.getD 0 0 = 48)
  · rw [if_pos hb7]
    by_cases h7 : 7 < n
    · have q7 : (7 : Int) < (n : Int) := by omega
      obtain ⟨b, hbb⟩ : ∃ b, (l.getD 0 0).toNat = b := ⟨_, rfl⟩
      have HBB := Lib.hid hbb
      rw [hbb] at g0 b45
      clear hl h0 hs hc hsz hn hst ha hb hp hd hm hall hmm hml h00 hdd hb7 h7 hbb
      unfold letters at HA
      unfold digits at HB0
      show Calls _ _ _ _ fun e w' => e = .returned (.tuple #[.agg #[.int .i64 0, .string ⟨#[]⟩, .int .i64 0, .int .i32 0, .int .i64 0], .int .i64 0, .int .i64 5]) ∧ _
      go_enter Tryz.func102, Tryz.ntmps102
      go_wp2_with (first | (refine ev_alloc rfl rfl 113 rfl _ zero_tk ?_; intro g w1 hg R1 B1))
      have HB := Lib.hid B1
      clear B1
      refine (HA.out _).mono ?_
      rintro _ w2 ⟨rfl, rfl⟩
      go_wp2_with fail
      refine (HB0.out _).mono ?_
      rintro _ w3 ⟨rfl, rfl⟩
      go_wp2_with fail
      generalize s.extract 0 n = t at *
      have t0 : (0 : Int) < (t.size : Int) := by have := HTS.out; have := H00.out.2; omega
      have t1 : 0 < t.size := by have := HTS.out; have := H00.out.2; omega
      have tg : ∀ h : 0 < t.size, (t[0]'h).toNat = b := fun h => by rw [HTG.out 0 h, H00.out.1]; exact HBB.out
      refine (HCT.out _).mono ?_
      rintro _ w4 ⟨rfl, rfl⟩
      go_wp2_with (first | (refine ev_store rfl 113 _ _ rfl g (tk Lx.tk0).toArray rfl rfl R1 (tk_info _) rfl (tk_one _) rfl ?_; intro w9 RZ S9))
      have d0 : w9.cell? ⟨g, 0, none⟩ = some (.int .i64 0) := RZ.cell 0
      have d1 : w9.cell? ⟨g, 1, none⟩ = some (.string ⟨#[]⟩) := RZ.cell 1
      have d2 : w9.cell? ⟨g, 2, none⟩ = some (.int .i64 0) := RZ.cell 2
      have d3 : w9.cell? ⟨g, 3, none⟩ = some (.int .i32 0) := RZ.cell 3
      have d4 : w9.cell? ⟨g, 4, none⟩ = some (.int .i64 0) := RZ.cell 4
      exact bodyPost_ret (v := .tuple #[.agg #[.int .i64 0, .string ⟨#[]⟩, .int .i64 0, .int .i32 0, .int .i64 0], .int .i64 0, .int .i64 5]) (by simp [results, Tryz.results102, go_sem, d0, d1, d2, d3, d4]) rfl ⟨rfl, S9.below HB.out hg⟩
    · obtain ⟨h1, h48⟩ : 1 < m.length ∧ m.getD 0 0 = 48 := by rcases hb7 with h | h; omega; exact h
      have q7 : ¬ (7 : Int) < (n : Int) := by omega
      have q1 : (1 : Int) < (n : Int) := by omega
      have h48b : (l.getD 0 0).toNat = 48 := by rw [← h00, h48]; rfl
      have H48 := Lib.hid h48b
      rw [h48b] at g0 b45
      clear hl h0 hs hc hsz hn hst ha hb hp hd hm hall hmm hml h00 hdd hb7 h7 h1 h48 h48b
      unfold letters at HA
      unfold digits at HB0
      show Calls _ _ _ _ fun e w' => e = .returned (.tuple #[.agg #[.int .i64 0, .string ⟨#[]⟩, .int .i64 0, .int .i32 0, .int .i64 0], .int .i64 0, .int .i64 5]) ∧ _
      go_enter Tryz.func102, Tryz.ntmps102
      go_wp2_with (first | (refine ev_alloc rfl rfl 113 rfl _ zero_tk ?_; intro g w1 hg R1 B1))
      have HB := Lib.hid B1
      clear B1
      refine (HA.out _).mono ?_
      rintro _ w2 ⟨rfl, rfl⟩
      go_wp2_with fail
      refine (HB0.out _).mono ?_
      rintro _ w3 ⟨rfl, rfl⟩
      go_wp2_with fail
      generalize s.extract 0 n = t at *
      have t0 : (0 : Int) < (t.size : Int) := by have := HTS.out; have := H00.out.2; omega
      have t1 : 0 < t.size := by have := HTS.out; have := H00.out.2; omega
      have tg : ∀ h : 0 < t.size, (t[0]'h).toNat = 48 := fun h => by rw [HTG.out 0 h, H00.out.1]; exact H48.out
      refine (HCT.out _).mono ?_
      rintro _ w4 ⟨rfl, rfl⟩
      go_wp2_with (first | (refine ev_store rfl 113 _ _ rfl g (tk Lx.tk0).toArray rfl rfl R1 (tk_info _) rfl (tk_one _) rfl ?_; intro w9 RZ S9))
      have d0 : w9.cell? ⟨g, 0, none⟩ = some (.int .i64 0) := RZ.cell 0
      have d1 : w9.cell? ⟨g, 1, none⟩ = some (.string ⟨#[]⟩) := RZ.cell 1
      have d2 : w9.cell? ⟨g, 2, none⟩ = some (.int .i64 0) := RZ.cell 2
      have d3 : w9.cell? ⟨g, 3, none⟩ = some (.int .i32 0) := RZ.cell 3
      have d4 : w9.cell? ⟨g, 4, none⟩ = some (.int .i64 0) := RZ.cell 4
      exact bodyPost_ret (v := .tuple #[.agg #[.int .i64 0, .string ⟨#[]⟩, .int .i64 0, .int .i32 0, .int .i64 0], .int .i64 0, .int .i64 5]) (by simp [results, Tryz.results102, go_sem, d0, d1, d2, d3, d4]) rfl ⟨rfl, S9.below HB.out hg⟩
  · rw [if_neg hb7]
    have q7 : ¬ (7 : Int) < (n : Int) := by omega
    have h7 : n ≤ 7 := by omega
    have hq : (((l.getD 0 0).toNat : Int) == 48) = false ∨ ((((l.getD 0 0).toNat : Int) == 48) = true ∧ ¬ (1 : Int) < (n : Int)) := by
      by_cases c : (l.getD 0 0).toNat = 48
      · right
        have : m.getD 0 0 = 48 := by rw [h00]; exact UInt8.toNat.inj c
        exact ⟨by rw [c]; rfl, fun h1 => hb7 (.inr ⟨by omega, this⟩)⟩
      · left
        exact beq_eq_false_iff_ne.2 (by omega)
    have hn1 : (1 : Int) < (n : Int) ∨ ¬ (1 : Int) < (n : Int) := by omega
    have HN7 := Lib.hid h7
    obtain ⟨b, hbb⟩ : ∃ b, (l.getD 0 0).toNat = b := ⟨_, rfl⟩
    have HBB := Lib.hid hbb
    rw [hbb] at g0 b45 hq
    clear hl h0 hs hc hsz hn hst ha hb hp hd hm hall hmm hml h00 hdd hb7 h7 hbb
    unfold letters at HA
    unfold digits at HB0
    rcases hn1 with hn1 | hn1
    all_goals rcases hq with hq | ⟨hq, q1⟩
    all_goals (first | (exact absurd hn1 q1) | skip)
    all_goals
      go_enter Tryz.func102, Tryz.ntmps102
      go_wp2_with (first | (refine ev_alloc rfl rfl 113 rfl _ zero_tk ?_; intro g w1 hg R1 B1))
      have HB := Lib.hid B1
      clear B1
      refine (HA.out _).mono ?_
      rintro _ w2 ⟨rfl, rfl⟩
      go_wp2_with fail
      refine (HB0.out _).mono ?_
      rintro _ w3 ⟨rfl, rfl⟩
      go_wp2_with fail
      generalize s.extract 0 n = t at *
      have t0 : (0 : Int) < (t.size : Int) := by have := HTS.out; have := H00.out.2; omega
      have t1 : 0 < t.size := by have := HTS.out; have := H00.out.2; omega
      have tg : ∀ h : 0 < t.size, (t[0]'h).toNat = b := fun h => by rw [HTG.out 0 h, H00.out.1]; exact HBB.out
      refine (HCT.out _).mono ?_
      rintro _ w4 ⟨rfl, rfl⟩
      go_wp2_with fail
      have HR := Lib.hid R1
      clear R1 hn1 hq
      go_loopw [10, 61] (fun nv iv wr => ∃ k : Nat, k ≤ n ∧ iv = .int .i64 (k : Int) ∧ nv = .int .i64 (Lx.dig (m.take k)) ∧ wr = w4) (fun _ iv _ => n - (intOf iv).toNat)
      case atStart => exact ⟨0, by omega, rfl, rfl, rfl⟩
      case round =>
        obtain ⟨k, hk, rfl, rfl, rfl⟩ := hrel
        by_cases hlt : k < n
        · have gk : ∀ h : k < t.size, (t[k]'h).toNat = (m.getD k 0).toNat := fun h => HTG.out k h
          have i1 : (k : Int) < (t.size : Int) := by have := HTS.out; omega
          have i2 : (k : Int) < (n : Int) := by omega
          have i0 : (0 : Int) ≤ (k : Int) := by omega
          have i3 : k < t.size := by have := HTS.out; omega
          have hb := dig_bd m HD.out k (by rw [HML.out]; exact hk)
          have hx := HD.out (m.getD k 0) (getD_mem (by rw [HML.out]; exact hlt))
          have hst : Lx.dig (m.take (k + 1)) = 10 * Lx.dig (m.take k) + (((m.getD k 0).toNat : Int) - 48) := by
            have hlm : k < m.length := by rw [HML.out]; exact hlt
            rw [List.take_succ_eq_append_getElem hlm]
            have e : ∀ b, Lx.dig (m.take k ++ [b]) = 10 * Lx.dig (m.take k) + ((b.toNat : Int) - 48) := fun b => by unfold Lx.dig; rw [List.foldl_append]; rfl
            rw [e, List.getD_eq_getElem?_getD, List.getElem?_eq_getElem hlm]
            rfl
          have hp : Lx.dig (m.take k) < 10000000 := Int.lt_of_lt_of_le hb.2 (by
            have h7 := HN7.out
            have : (10 : Int) ^ k ≤ 10 ^ 7 := by exact_mod_cast Nat.pow_le_pow_right (by omega) (by omega)
            omega)
          have HST := Lib.hid hst
          generalize Lx.dig (m.take k) = x at *
          generalize (m.getD k 0).toNat = c at *
          have e1 : IntKind.u8.wrap ((c : Int) - 48) = (c : Int) - 48 := by rw [IntKind.wrap_u8]; omega
          have e2 : IntKind.i64.wrap (x * 10) = x * 10 := by rw [IntKind.wrap_i64]; omega
          have e3 : IntKind.i64.wrap (x * 10 + ((c : Int) - 48)) = x * 10 + ((c : Int) - 48) := by rw [IntKind.wrap_i64]; omega
          have e4 : IntKind.i64.wrap ((k : Int) + 1) = (k : Int) + 1 := by rw [IntKind.wrap_i64]; have := HN7.out; omega
          have e5 : IntKind.i64.wrap ((c : Int) - 48) = (c : Int) - 48 := by rw [IntKind.wrap_i64]; omega
          have HI := Lib.hid hlt
          clear hb hx hp hst hlt hk
          go_wp2_with fail
          refine ⟨⟨k + 1, HI.out, by simp, by rw [HST.out]; congr 1; omega, by first | rfl | trivial⟩, by have := HI.out; simp [intOf]; omega⟩
        · obtain rfl : k = n := by omega
          have i1 : ¬ (k : Int) < (k : Int) := by omega
          have hmt : m.take k = m := by rw [List.take_of_length_le (by rw [HML.out]; omega)]
          rw [hmt]
          clear hmt hlt hk
          go_wp2_with (first | (refine ev_store rfl 113 _ _ rfl g (tk ⟨2, m, Lx.dig m, 0, 0⟩).toArray rfl (congrArg Value.agg ST.out.symm) HR.out (tk_info _) rfl (tk_one _) rfl ?_; intro w9 RZ S9))
          rw [ST.out] at RZ
          have d0 : w9.cell? ⟨g, 0, none⟩ = some (.int .i64 2) := RZ.cell 0
          have d1 : w9.cell? ⟨g, 1, none⟩ = some (.string t) := RZ.cell 1
          have d2 : w9.cell? ⟨g, 2, none⟩ = some (.int .i64 (Lx.dig m)) := RZ.cell 2
          have d3 : w9.cell? ⟨g, 3, none⟩ = some (.int .i32 0) := RZ.cell 3
          have d4 : w9.cell? ⟨g, 4, none⟩ = some (.int .i64 0) := RZ.cell 4
          exact bodyPost_ret (v := .tuple #[.agg #[.int .i64 2, .string t, .int .i64 (Lx.dig m), .int .i32 0, .int .i64 0], .int .i64 (k : Int), .int .i64 0]) (by simp [results, Tryz.results102, go_sem, d0, d1, d2, d3, d4]) rfl ⟨HPO.out, S9.below HB.out hg⟩
end Go.Proofs.YtbhjkddjgikaiaaGreatDoor
