/-
  Own texts, several in one (PaP, PaQ, DyQ).
-/
import Derived.Test.YtbhjkddjgikaiaaGreatDoorMrg23
import Derived.Test.YtbhjkddjgikaiaaGreatDoorMrg21
namespace Go.Proofs.YtbhjkddjgikaiaaGreatDoor
set_option linter.unusedVariables false
set_option linter.unusedSimpArgs false
set_option autoImplicit false
namespace Sc
open Lx
def hd (l : List Tk) : Tk := l.headD tk0
def fail {α : Type} (l : List Tk) (e : Nat) : Except (Nat × Nat) α := .error ((hd l).pos, e)
def isN (k : Nat) (x : List UInt8) (l : List Tk) : Bool := decide ((hd l).kind = k) && (decide (x = []) || decide ((hd l).text = x))
def must (k : Nat) (x : List UInt8) (l : List Tk) : Except (Nat × Nat) (Tk × List Tk) := if isN k x l = true then .ok (hd l, l.tail) else fail l 1
def num (a b : Int) (l : List Tk) : Except (Nat × Nat) (Int × List Tk) :=
  if (hd l).kind = 2 ∧ ((hd l).num < a ∨ b < (hd l).num) then fail l 5 else match must 2 [] l with
    | .error e => .error e
    | .ok (t, r) => .ok (t.num, r)
def partOf (l : List Tk) : Except (Nat × Nat) ((Nat × Nat) × List Tk) := match num 1 999999 l with
  | .error e => .error e
  | .ok (c, l1) => match num 1 1000000 l1 with
    | .error e => .error e
    | .ok (w, l2) => .ok ((c.toNat, w.toNat), l2)
/-- a split's parts: so many more may come -/
def partsOf : Nat → List Tk → Except (Nat × Nat) (List (Nat × Nat) × List Tk)
  | 0, l => fail l 2
  | f + 1, l => match partOf l with
    | .error e => .error e
    | .ok (p, l1) => if isN 5 [44] l1 = true then match partsOf f l1.tail with
        | .error e => .error e
        | .ok (r, l2) => .ok (p :: r, l2)
      else .ok ([p], l1)
def daysOf : List Tk → List Int × List Tk
  | [] => ([], [])
  | t :: l => if t.kind = 3 then (t.day :: (daysOf l).1, (daysOf l).2) else ([], t :: l)
def op0 : Op := ⟨0, 0, 0, [], [], [], 0, 0⟩
def most (k : Nat) : Int := if k = 5 ∨ k = 6 then 999 else 999999
def least (k : Nat) : Int := if k = 2 then 0 else 1
def restOf (k : Nat) (l : List Tk) : Except (Nat × Nat) (Op × List Tk) :=
  if k = 7 then match must 1 (link 7) (daysOf l).2 with
    | .error e => .error e
    | .ok (_, l1) => match must 3 [] l1 with
      | .error e => .error e
      | .ok (t, l2) => .ok ({ op0 with kind := 7, starts := (daysOf l).1, fin := t.day }, l2)
  else match num 1 (most k) l with
    | .error e => .error e
    | .ok (n, l1) => if k = 1 then match must 4 [] l1 with
        | .error e => .error e
        | .ok (t, l2) => .ok ({ op0 with kind := 1, fr := n.toNat, name := t.text }, l2)
      else match must 1 (link k) l1 with
        | .error e => .error e
        | .ok (_, l2) => if k = 4 then match partsOf 8 l2 with
            | .error e => .error e
            | .ok (ps, l3) => .ok ({ op0 with kind := 4, fr := n.toNat, parts := ps }, l3)
          else match num (least k) (most k) l2 with
            | .error e => .error e
            | .ok (m, l3) => .ok ({ op0 with kind := k, fr := n.toNat, too := m.toNat }, l3)
def kindOf (l : List Tk) : Option Nat := (List.range 8).find? fun k => isN 1 (word k) l
/-- ops out of tokens: n ops are there already -/
def parseOf : Nat → Nat → List Tk → Except (Nat × Nat) (List Op)
  | 0, _, _ => .ok []
  | f + 1, n, l =>
    if (hd l).kind = 0 then .ok []
    else if n = 100 then fail l 2
    else match kindOf l with
      | none => fail l 17
      | some k => match restOf k l.tail with
        | .error e => .error e
        | .ok (o, l1) => match must 5 [59] l1 with
          | .error e => .error e
          | .ok (_, l2) => match parseOf f (n + 1) l2 with
            | .error e => .error e
            | .ok r => .ok ({ o with pos := (hd l).pos } :: r)
/-- a text's ops -/
def parse (pd : List UInt8 → Option Int) (s : List UInt8) : Except (Nat × Nat) (List Op) :=
  if 65536 < s.length then .error (0, 2) else match split pd s 0 with
    | .error e => .error e
    | .ok l => parseOf 101 0 l

/- tokens that stand there but for their places -/
theorem isN_cons (k : Nat) (x : List UInt8) (t : Tk) (l : List Tk) (hk : t.kind = k) (hx : x = [] ∨ t.text = x) : isN k x (t :: l) = true := by
  unfold isN hd
  simp [hk]
  exact hx
/-- an op that chapter 14 lets by -/
structure Op.may (o : Op) : Prop where
  kind : o.kind < 8
  fr : o.kind ≠ 7 → 1 ≤ o.fr ∧ (o.fr : Int) ≤ most o.kind
  too : o.kind ≠ 7 → o.kind ≠ 1 → o.kind ≠ 4 → least o.kind ≤ o.too ∧ (o.too : Int) ≤ most o.kind
  parts : o.kind = 4 → 0 < o.parts.length ∧ o.parts.length ≤ 8 ∧ ∀ p ∈ o.parts, 1 ≤ p.1 ∧ p.1 ≤ 999999 ∧ 1 ≤ p.2 ∧ p.2 ≤ 1000000
  /-- what the kind doesn't tell is nothing -/
  fr0 : o.kind = 7 → o.fr = 0
  to0 : (o.kind = 7 ∨ o.kind = 1 ∨ o.kind = 4) → o.too = 0
  name0 : o.kind ≠ 1 → o.name = []
  parts0 : o.kind ≠ 4 → o.parts = []
  starts0 : o.kind ≠ 7 → o.starts = []
  fin0 : o.kind ≠ 7 → o.fin = 0
end Sc
end Go.Proofs.YtbhjkddjgikaiaaGreatDoor

namespace Go.Proofs.YtbhjkddjgikaiaaGreatDoor
set_option linter.unusedVariables false
set_option linter.unusedSimpArgs false
set_option autoImplicit false
namespace Sc
open Lx
/-- ops, each where its text begins -/
def place (dt : Int → List UInt8) (k : Nat) : Nat → List Op → List Op
  | _, [] => []
  | i, o :: r => { o with pos := i } :: place dt k (i + (text dt o).length + k) r
section
variable (pd : List UInt8 → Option Int) (dt : Int → List UInt8) (dr : Int → Prop)
end
end Sc
end Go.Proofs.YtbhjkddjgikaiaaGreatDoor

namespace Go.Proofs.YtbhjkddjgikaiaaGreatDoor
set_option linter.unusedVariables false
set_option linter.unusedSimpArgs false
namespace Dy
theorem digitVal_ofNat (k : Nat) (h : k < 10) : Lib.digitVal (UInt8.ofNat (48 + k)) = some k := by
  unfold Lib.digitVal
  rw [Sc.u8_nat _ (by omega), if_pos (by omega)]
  simp
theorem decFrom_app : ∀ (l : List UInt8) (a : Nat) (b : UInt8) (n d : Nat), Lib.decFrom a l = some n → Lib.digitVal b = some d → Lib.decFrom a (l ++ [b]) = some (n * 10 + d)
  | [], a, b, n, d, h, hd => by
    simp only [Lib.decFrom, Option.some.injEq] at h
    subst h
    simp [Lib.decFrom, hd]
  | c :: l, a, b, n, d, h, hd => by
    simp only [Lib.decFrom, List.cons_append] at h ⊢
    cases hc : Lib.digitVal c with
    | none => rw [hc] at h; cases h
    | some e =>
      rw [hc] at h
      exact decFrom_app l _ b n d h hd
theorem decFrom_dec (n : Nat) : Lib.decFrom 0 (Lib.decDigits n) = some n := by
  induction n using Nat.strongRecOn with
  | _ n ih =>
    rw [Lib.decDigits]
    by_cases h : n < 10
    · rw [dif_pos h]
      simp only [Lib.decFrom, digitVal_ofNat n h]
      simp
    · rw [dif_neg h, decFrom_app _ 0 _ (n / 10) (n % 10) (ih (n / 10) (by omega)) (digitVal_ofNat _ (by omega))]
      congr 1
      omega
theorem decFrom_zeros (l : List UInt8) : ∀ c, Lib.decFrom 0 (Lib.repeatL [48] c ++ l) = Lib.decFrom 0 l
  | 0 => rfl
  | c + 1 => by
    rw [← decFrom_zeros l c]
    show Lib.decFrom 0 (48 :: (Lib.repeatL [48] c ++ l)) = _
    generalize Lib.repeatL [48] c ++ l = m
    simp only [Lib.decFrom, show Lib.digitVal 48 = some 0 by rfl]
theorem pad_dig (n size : Nat) : ∀ b ∈ padL (n : Int) size, 48 ≤ b.toNat ∧ b.toNat ≤ 57 := by
  intro b hb
  unfold padL at hb
  rcases List.mem_append.1 hb with h | h
  · have key : ∀ c, ∀ b ∈ Lib.repeatL [48] c, b = (48 : UInt8) := fun c => by
      induction c with
      | zero => intro b h; cases h
      | succ c ih =>
        intro b h
        rcases List.mem_cons.1 (show b ∈ 48 :: Lib.repeatL [48] c from h) with h | h
        · exact h
        · exact ih b h
    rw [key _ b h]; decide
  · rw [Lib.itoa_nonneg] at h
    exact Sc.dec_dig n b h
theorem pad_ne (n size : Nat) : padL (n : Int) size ≠ [] := by
  intro h
  unfold padL at h
  have := (List.append_eq_nil_iff.1 h).2
  rw [Lib.itoa_nonneg] at this
  exact Sc.dec_ne n this
theorem atoi_pad (n size : Nat) : Lib.atoi (padL (n : Int) size) = some (n : Int) := by
  have hd := pad_dig n size
  have hn := pad_ne n size
  have hf : Lib.decFrom 0 (padL (n : Int) size) = some n := by unfold padL; rw [decFrom_zeros, Lib.itoa_nonneg, decFrom_dec]
  rcases h : padL (n : Int) size with _ | ⟨b, r⟩
  · exact absurd h hn
  · rw [h] at hd hf
    have hb := hd b (by simp)
    have h45 : (b == 45) = false := by rw [beq_eq_false_iff_ne]; rintro rfl; exact absurd hb (by decide)
    have h43 : (b == 43) = false := by rw [beq_eq_false_iff_ne]; rintro rfl; exact absurd hb (by decide)
    simp only [Lib.atoi, h45, h43, Bool.false_eq_true, if_false, Lib.decNat, List.isEmpty_cons, hf]
    rfl
theorem pad_len (n size : Nat) (h : (Lib.decDigits n).length ≤ size) : (padL (n : Int) size).length = size := by
  unfold padL
  rw [List.length_append, repeatL_len, Lib.itoa_nonneg]
  omega
theorem dec_len4 (n : Nat) (h : n ≤ 9999) : (Lib.decDigits n).length ≤ 4 := by
  rw [Lib.decDigits_length]
  by_cases a : n < 10
  · rw [Lib.nDigits_small a]; omega
  · rw [Lib.nDigits_big a]
    by_cases b : n / 10 < 10
    · rw [Lib.nDigits_small b]; omega
    · rw [Lib.nDigits_big b]
      by_cases c : n / 10 / 10 < 10
      · rw [Lib.nDigits_small c]; omega
      · rw [Lib.nDigits_big c, Lib.nDigits_small (by omega)]; omega
theorem dec_len2 (n : Nat) (h : n ≤ 99) : (Lib.decDigits n).length ≤ 2 := by
  rw [Lib.decDigits_length]
  by_cases a : n < 10
  · rw [Lib.nDigits_small a]; omega
  · rw [Lib.nDigits_big a, Lib.nDigits_small (by omega)]; omega
theorem mon_bef (y : Int) : ∀ (f m : Nat) (d : Int), 1 ≤ m → bef y ((mon y f m d).1 - 1) + (mon y f m d).2 = bef y (m - 1) + d
  | 0, m, d, _ => rfl
  | f + 1, m, d, h => by
    unfold mon
    by_cases c : long y m ≤ d
    · rw [if_pos c, mon_bef y f (m + 1) _ (by omega)]
      have e : bef y (m + 1 - 1) = bef y (m - 1) + long y m := by
        obtain ⟨k, rfl⟩ : ∃ k, m = k + 1 := ⟨m - 1, by omega⟩
        rfl
      rw [e]
      omega
    · rw [if_neg c]
/-- the day of a year's day's parts is the day -/
theorem of_md (n y : Int) (hy : 1 ≤ y ∧ y ≤ 9999) (h1 : ahead y ≤ n) (h2 : n < ahead (y + 1)) : of y ((md n y).1 : Int) ((md n y).2 + 1) = some n ∧ 1 ≤ (md n y).1 ∧ (md n y).1 ≤ 12 ∧ 0 ≤ (md n y).2 ∧ (md n y).2 < 31 := by
  have hb := mon_bd y 12 1 (n - ahead y) rfl (by omega) (by omega) (by omega) (by rw [← ahead_year]; omega)
  have hm := mon_bef y 12 1 (n - ahead y) (by omega)
  change 1 ≤ (md n y).1 ∧ (md n y).1 ≤ 12 ∧ 0 ≤ (md n y).2 ∧ (md n y).2 < long y (md n y).1 at hb
  change bef y ((md n y).1 - 1) + (md n y).2 = bef y 0 + (n - ahead y) at hm
  have hlp := long_pos y (md n y).1 hb.1 hb.2.1
  refine ⟨?_, hb.1, hb.2.1, hb.2.2.1, by omega⟩
  unfold of
  have hok : ofOk y ((md n y).1 : Int) ((md n y).2 + 1) = true := by
    simp only [ofOk, Bool.and_eq_true, decide_eq_true_eq, Int.toNat_natCast]
    omega
  rw [if_pos hok, Int.toNat_natCast]
  have e0 : bef y 0 = 0 := rfl
  congr 1
  omega
theorem getD_app (a b : List UInt8) (k : Nat) (h : k = a.length) : (a ++ b).getD k 0 = b.getD 0 0 := by
  subst h
  rw [List.getD_eq_getElem?_getD, List.getElem?_append_right (Nat.le_refl _), Nat.sub_self, ← List.getD_eq_getElem?_getD]
/-- a day's text: nothing, where there is none -/
noncomputable def text (n : Int) : List UInt8 := open Classical in if h : ∃ y : Int, 1 ≤ y ∧ y ≤ 9999 ∧ ahead y ≤ n ∧ n < ahead (y + 1) then txt h.choose n else []
def inY (n : Int) : Prop := -719162 ≤ n ∧ n < 2932897
theorem text_year (n y : Int) (hy : 1 ≤ y ∧ y ≤ 9999) (h1 : ahead y ≤ n) (h2 : n < ahead (y + 1)) : text n = txt y n := by
  have h : ∃ y : Int, 1 ≤ y ∧ y ≤ 9999 ∧ ahead y ≤ n ∧ n < ahead (y + 1) := ⟨y, hy.1, hy.2, h1, h2⟩
  unfold text
  rw [dif_pos h]
  have hs := h.choose_spec
  generalize h.choose = z at *
  have e : z = y := by
    rcases Int.lt_trichotomy z y with c | c | c
    · have : ahead (z + 1) ≤ ahead y := by
        by_cases e : z + 1 = y
        · rw [e]; omega
        · exact Int.le_of_lt (ahead_lt (z + 1) y (by omega))
      omega
    · exact c
    · have : ahead (y + 1) ≤ ahead z := by
        by_cases e : y + 1 = z
        · rw [e]; omega
        · exact Int.le_of_lt (ahead_lt (y + 1) z (by omega))
      omega
  rw [e]
theorem txt_nat (n y : Int) (hy : 1 ≤ y ∧ y ≤ 9999) (h1 : ahead y ≤ n) (h2 : n < ahead (y + 1)) : ∃ a b c : Nat, txt y n = padL (a : Int) 4 ++ [45] ++ padL (b : Int) 2 ++ [45] ++ padL (c : Int) 2 ∧ y = a ∧ ((md n y).1 : Int) = b ∧ (md n y).2 + 1 = c ∧ a ≤ 9999 ∧ b ≤ 99 ∧ c ≤ 99 := by
  obtain ⟨_, a1, a2, a3, a4⟩ := of_md n y hy h1 h2
  refine ⟨y.toNat, (md n y).1, ((md n y).2 + 1).toNat, ?_, by omega, rfl, by omega, by omega, by omega, by omega⟩
  unfold txt dayT
  rw [show ((y.toNat : Nat) : Int) = y by omega, show ((((md n y).2 + 1).toNat : Nat) : Int) = (md n y).2 + 1 by omega]
theorem parse_txt (n y : Int) (hy : 1 ≤ y ∧ y ≤ 9999) (h1 : ahead y ≤ n) (h2 : n < ahead (y + 1)) : parse (txt y n) = some n := by
  obtain ⟨a, b, c, e, ea, eb, ec, ha, hb, hc⟩ := txt_nat n y hy h1 h2
  have la := pad_len a 4 (dec_len4 a ha)
  have lb := pad_len b 2 (dec_len2 b hb)
  have lc := pad_len c 2 (dec_len2 c hc)
  have e1 : txt y n = padL (a : Int) 4 ++ ([45] ++ (padL (b : Int) 2 ++ ([45] ++ padL (c : Int) 2))) := by rw [e]; simp
  have hlen : (txt y n).length = 10 := by rw [e1]; simp; omega
  have g4 : (txt y n).getD 4 0 = 45 := by rw [e1, getD_app _ _ 4 la.symm]; rfl
  have e7 : txt y n = (padL (a : Int) 4 ++ ([45] ++ padL (b : Int) 2)) ++ ([45] ++ padL (c : Int) 2) := by rw [e]; simp
  have g7 : (txt y n).getD 7 0 = 45 := by rw [e7, getD_app _ _ 7 (by simp; omega)]; rfl
  have t4 : (txt y n).take 4 = padL (a : Int) 4 := by rw [e1, List.take_left' la]
  have t5 : ((txt y n).drop 5).take 2 = padL (b : Int) 2 := by
    have e5 : txt y n = (padL (a : Int) 4 ++ [45]) ++ (padL (b : Int) 2 ++ ([45] ++ padL (c : Int) 2)) := by rw [e]; simp
    rw [e5, List.drop_left' (by simp; omega), List.take_left' lb]
  have t8 : (txt y n).drop 8 = padL (c : Int) 2 := by
    have e8 : txt y n = (padL (a : Int) 4 ++ ([45] ++ (padL (b : Int) 2 ++ [45]))) ++ padL (c : Int) 2 := by rw [e]; simp
    rw [e8, List.drop_left' (by simp; omega)]
  unfold parse
  rw [if_pos ⟨hlen, by rw [g4]; rfl, by rw [g7]; rfl⟩, t4, t5, t8, atoi_pad, atoi_pad, atoi_pad]
  unfold parse3
  dsimp only
  rw [← ea, ← eb, ← ec, (of_md n y hy h1 h2).1]
  simp
theorem parse_text (n : Int) (h : inY n) : parse (text n) = some n := by
  obtain ⟨y, a, b, c, d⟩ := year_ex n h
  rw [text_year n y ⟨a, b⟩ c d]
  exact parse_txt n y ⟨a, b⟩ c d
end Dy
end Go.Proofs.YtbhjkddjgikaiaaGreatDoor
