/-
  Own texts, several in one (Q1, Q2, Q3).
-/
import Derived.Test.YtbhjkddjgikaiaaGreatDoorMrg32
namespace Go.Proofs.YtbhjkddjgikaiaaGreatDoor
open Go.RowKit
set_option linter.unusedVariables false
set_option linter.unusedSimpArgs false
/-- where it went wrong, and why; nothing yet: noughts -/
def erAt (er : Option (Nat × Nat)) : Nat × Nat := er.getD (0, 0)
/-- law 14's Q: the tokens that are left, and the first error -/
def QsAt (w : World) (g b : Nat) (l : List Lx.Tk) (er : Option (Nat × Nat)) : Prop := ∃ off c, Row w g #[.slice (some ⟨b, off, none⟩) l.length c, .int .i64 ((erAt er).1 : Int), .int .i64 ((erAt er).2 : Int)] 121 ∧ TksAt w b off l ∧ l.length ≤ c ∧ c ≤ maxLen ∧ b ≠ g ∧ (∀ e, er = some e → e.2 ≠ 0)
theorem QsAt.only {w w' : World} {g b : Nat} {l : List Lx.Tk} {er : Option (Nat × Nat)} {S : Nat → Prop} (h : QsAt w g b l er) (hb : Only S w w') (hg : ¬ S g) (hs : ¬ S b) : QsAt w' g b l er := by
  obtain ⟨off, c, R, h1, h2, h3, h4⟩ := h
  exact ⟨off, c, hb.row R hg, h1.only hb hs, h2, h3, h4⟩
theorem QsAt.lt {w : World} {g b : Nat} {l : List Lx.Tk} {er : Option (Nat × Nat)} (h : QsAt w g b l er) : g < w.heap.size := by
  obtain ⟨off, c, R, _⟩ := h
  exact R.lt
theorem QsAt.bl {w : World} {g b : Nat} {l : List Lx.Tk} {er : Option (Nat × Nat)} (h : QsAt w g b l er) (hE : Sc.Ended l) : b < w.heap.size := by
  obtain ⟨off, c, _, hT, _⟩ := h
  exact block_lt_of_cell (hT.hd hE.ne).1
set_option maxHeartbeats 2000000 in
set_option maxRecDepth 100000 in
theorem wrong_any (c0 : Nat) (hc0 : c0 ≠ 0) (g b : Nat) (l : List Lx.Tk) (er : Option (Nat × Nat)) (w : World) (h : QsAt w g b l er) (hE : Sc.Ended l) :
    Calls Tryz.prog 54 #[.pointer (some ⟨g, 0, none⟩), .int .i64 (c0 : Int)] w fun e w' => e = .returned (.tuple #[]) ∧ QsAt w' g b l (er.orElse fun _ => some ((Sc.hd l).pos, c0)) ∧ Only (· = g) w w' := by
  have HP := Lib.hid h
  obtain ⟨off, c, R, hT, hc, hm, hne, her⟩ := h
  have cg : w.cell? ⟨g, 0, none⟩ = some (.slice (some ⟨b, off, none⟩) l.length c) := R.cell 0
  have hl := hE.ne
  obtain ⟨k0, k1, k2, k3, k4⟩ := hT.hd hl
  have i1 : (0 : Int) < (l.length : Int) := by omega
  have z1 := R.frozen 1
  have z2 := R.frozen 2
  rcases er with _ | ⟨p, ec⟩
  · have c1 : w.cell? ⟨g, 1, none⟩ = some (.int .i64 0) := R.cell 1
    have c2 : w.cell? ⟨g, 2, none⟩ = some (.int .i64 0) := R.cell 2
    have HR := Lib.hid (And.intro R (And.intro hT (And.intro hc (And.intro hm hne))))
    generalize (Sc.hd l).pos = p at *
    clear R hT hc hm hne her k0 k1 k2 k3 hl
    go_enter Tryz.func54, Tryz.ntmps54
    go_wp2_with fail
    have hr := HR.out
    have SH : Only (· = g) w ((w.setCell ⟨g, 1, none⟩ (.int .i64 (p : Int))).setCell ⟨g, 2, none⟩ (.int .i64 (c0 : Int))) := ((Only.refl (· = g) w).setCell (p := ⟨g, 1, none⟩) (.inl rfl) _).setCell (p := ⟨g, 2, none⟩) (.inl rfl) _
    first | go_end0 | refine bodyPost_ret (results_none rfl _ _ _) rfl ?_
    exact ⟨rfl, ⟨off, c, (hr.1.set 1 (.int .i64 (p : Int))).set 2 (.int .i64 (c0 : Int)), hr.2.1.only SH hr.2.2.2.2, hr.2.2.1, hr.2.2.2.1, hr.2.2.2.2, fun e he => by cases he; exact hc0⟩, SH⟩
  · have c2 : w.cell? ⟨g, 2, none⟩ = some (.int .i64 (ec : Int)) := R.cell 2
    have j2 : ¬ (ec : Int) = 0 := by have := her (p, ec) rfl; simp at this; omega
    clear R hT hc hm hne her k0 k1 k2 k3 hl
    go_enter Tryz.func54, Tryz.ntmps54
    go_wp2_with fail
    first | go_end0 | refine bodyPost_ret (results_none rfl _ _ _) rfl ?_
    exact ⟨rfl, HP.out, Only.refl _ _⟩
def isQ (k : Nat) (x : List UInt8) (l : List Lx.Tk) (er : Option (Nat × Nat)) : Bool := er.isNone && Sc.isN k x l
set_option maxHeartbeats 2000000 in
set_option maxRecDepth 100000 in
theorem is_any (k : Nat) (x : List UInt8) (g b : Nat) (l : List Lx.Tk) (er : Option (Nat × Nat)) (w : World) (h : QsAt w g b l er) (hE : Sc.Ended l) :
    Calls Tryz.prog 55 #[.pointer (some ⟨g, 0, none⟩), .int .i64 (k : Int), .string ⟨x.toArray⟩] w fun e w' => e = .returned (.bool (isQ k x l er)) ∧ w' = w := by
  obtain ⟨off, c, R, hT, hc, hm, hne, her⟩ := h
  have cg : w.cell? ⟨g, 0, none⟩ = some (.slice (some ⟨b, off, none⟩) l.length c) := R.cell 0
  have hl := hE.ne
  obtain ⟨k0, k1, k2, k3, k4⟩ := hT.hd hl
  have i1 : (0 : Int) < (l.length : Int) := by omega
  unfold isQ
  rcases er with _ | ⟨p, ec⟩
  · have c2 : w.cell? ⟨g, 2, none⟩ = some (.int .i64 0) := R.cell 2
    cases hN : Sc.isN k x l
    · have hxx := isN_not hN
      generalize (Sc.hd l) = t at *
      clear R hT hc hm hne her hl hN
      have hxx : ¬ (t.kind : Int) = (k : Int) ∨ (t.kind = k ∧ x.isEmpty = false ∧ (t.text == x) = false) := by
        rcases hxx with hx | ⟨h1, h2, h3⟩
        · exact .inl (by omega)
        · exact .inr ⟨h1, by rcases x with _ | ⟨a, x⟩; exact absurd rfl h2; rfl, by simpa using h3⟩
      rcases hxx with hx | ⟨rfl, hx, hy⟩
      all_goals
        go_enter Tryz.func55, Tryz.ntmps55
        go_wp2_with fail
        go_ret
        exact ⟨rfl, rfl⟩
    · have hkk : (Sc.hd l).kind = k := Sc.isN_kind hN
      have hxx := isN_text hN
      subst hkk
      generalize (Sc.hd l) = t at *
      clear R hT hc hm hne her hl hN
      have hxx : x = [] ∨ (x.isEmpty = false ∧ t.text = x) := by
        rcases hxx with hx | ⟨h2, h3⟩
        · exact .inl hx
        · exact .inr ⟨by rcases x with _ | ⟨a, x⟩; exact absurd rfl h2; rfl, h3⟩
      rcases hxx with rfl | ⟨hx, rfl⟩
      all_goals
        go_enter Tryz.func55, Tryz.ntmps55
        go_wp2_with fail
        go_ret
        exact ⟨rfl, rfl⟩
  · have c2 : w.cell? ⟨g, 2, none⟩ = some (.int .i64 (ec : Int)) := R.cell 2
    have j2 : ¬ (ec : Int) = 0 := by have := her (p, ec) rfl; simp at this; omega
    clear R hT hc hm hne her k0 k1 k2 k3 hl
    go_enter Tryz.func55, Tryz.ntmps55
    go_wp2_with fail
    go_ret
    exact ⟨rfl, rfl⟩
end Go.Proofs.YtbhjkddjgikaiaaGreatDoor

namespace Go.Proofs.YtbhjkddjgikaiaaGreatDoor
open Go.RowKit
set_option linter.unusedVariables false
set_option linter.unusedSimpArgs false
abbrev QS := List Lx.Tk × Option (Nat × Nat)
def qneed (k : Nat) (x : List UInt8) (q : QS) : Lx.Tk × QS := if isQ k x q.1 q.2 = true then (Sc.hd q.1, (q.1.tail, q.2)) else (Lx.tk0, (q.1, q.2.orElse fun _ => some ((Sc.hd q.1).pos, 1)))
theorem qneed_ended {k : Nat} {x : List UInt8} {q : QS} (hk : k ≠ 0) (hE : Sc.Ended q.1) : Sc.Ended (qneed k x q).2.1 ∧ (qneed k x q).2.1.length ≤ q.1.length := by
  unfold qneed
  split
  · rename_i h
    have h1 : Sc.isN k x q.1 = true := by unfold isQ at h; simp at h; exact h.2
    have := Sc.isN_kind h1
    exact ⟨hE.tail (by omega), by show q.1.tail.length ≤ _; rw [List.length_tail]; omega⟩
  · exact ⟨hE, Nat.le_refl _⟩
set_option maxHeartbeats 2000000 in
set_option maxRecDepth 100000 in
theorem need_any (k : Nat) (x : List UInt8) (hk : k ≠ 0) (g b : Nat) (l : List Lx.Tk) (er : Option (Nat × Nat)) (w : World) (h : QsAt w g b l er) (hE : Sc.Ended l) :
    Calls Tryz.prog 56 #[.pointer (some ⟨g, 0, none⟩), .int .i64 (k : Int), .string ⟨x.toArray⟩] w fun e w' => e = .returned (.agg (tk (qneed k x (l, er)).1).toArray) ∧ QsAt w' g b (qneed k x (l, er)).2.1 (qneed k x (l, er)).2.2 ∧ Only (· = g) w w' := by
  have HP := Lib.hid h
  have HE := Lib.hid hE
  have hgl := h.lt
  have hbl := h.bl hE
  cases hq : isQ k x l er
  · have hn : qneed k x (l, er) = (Lx.tk0, (l, er.orElse fun _ => some ((Sc.hd l).pos, 1))) := by unfold qneed; rw [if_neg (by simp [hq])]
    rw [hn]
    have HQ := Lib.hid hq
    clear h hE hq hn
    go_enter Tryz.func56, Tryz.ntmps56
    go_wp2_with (first | (refine ev_alloc (N := 6) rfl rfl 113 rfl _ zero_tk ?_; intro g1 w1 hg1 R1 B1))
    have O1 : Only (fun _ => False) w w1 := Only.of_below B1
    have hp1 := HP.out.only O1 (fun h => h) (fun h => h)
    have his := is_any k x g b l er w1 hp1 HE.out
    rw [HQ.out] at his
    refine his.mono ?_
    rintro _ w1 ⟨rfl, rfl⟩
    go_wp2_with fail
    refine (wrong_any 1 (by omega) g b l er w1 hp1 HE.out).mono ?_
    rintro _ w2 ⟨rfl, hp2, O2⟩
    have R2 := O2.row R1 (show ¬ g1 = g by omega)
    go_wp2_with (first
      | (refine ev_store rfl 113 (.tmp 6) _ rfl g1 (tk Lx.tk0).toArray rfl rfl R2 (tk_info _) rfl (tk_one _) rfl ?_; intro w5 R5 S5; have f0 : w5.cell? ⟨g1, 0, none⟩ = some (.int .i64 0) := R5.cell 0; have f1 : w5.cell? ⟨g1, 1, none⟩ = some (.string ⟨#[]⟩) := R5.cell 1; have f2 : w5.cell? ⟨g1, 2, none⟩ = some (.int .i64 0) := R5.cell 2; have f3 : w5.cell? ⟨g1, 3, none⟩ = some (.int .i32 0) := R5.cell 3; have f4 : w5.cell? ⟨g1, 4, none⟩ = some (.int .i64 0) := R5.cell 4))
    have O5 := Only.stored (S := (· = g1)) (Only.refl _ w2) S5 (.inl rfl)
    exact bodyPost_ret (v := .agg (tk Lx.tk0).toArray) (by simp [results, Tryz.results56, go_sem, f0, f1, f2, f3, f4, tk, Lx.tk0]) rfl ⟨rfl, hp2.only O5 (show ¬ g = g1 by omega) (show ¬ b = g1 by omega), ((O1.mono (S' := (· = g)) fun k h => h.elim).trans O2).trans_new O5 (fun i hi e => by have : i = g1 := e; omega)⟩
  · have hn : qneed k x (l, er) = (Sc.hd l, (l.tail, er)) := by unfold qneed; rw [if_pos hq]
    rw [hn]
    have hN : Sc.isN k x l = true := by unfold isQ at hq; simp at hq; exact hq.2
    have hkk := Sc.isN_kind hN
    have hl2 : 2 ≤ l.length := by
      have := (hE.tail (show (Sc.hd l).kind ≠ 0 by omega)).ne
      rw [List.length_tail] at this
      omega
    have HQ := Lib.hid hq
    obtain ⟨t, ht⟩ : ∃ t, t = Sc.hd l := ⟨_, rfl⟩
    rw [← ht]
    have HTT := Lib.hid ht
    obtain ⟨off, c, R, hT, hc, hm, hne, her⟩ := h
    have i1 : (0 : Int) < (l.length : Int) := by omega
    have i2 : (1 : Int) ≤ (l.length : Int) := by omega
    have i3 : (l.length : Int) ≤ (c : Int) := by omega
    have i4 : (1 : Int) < (c : Int) := by omega
    have i5 : ¬ c = 1 := by omega
    have i6 : ¬ c - 1 = 0 := by omega
    have HR := Lib.hid (And.intro R (And.intro hT (And.intro hc (And.intro hm (And.intro hne her)))))
    clear hE hq hn hN hkk ht R hT hc hm hne her
    go_enter Tryz.func56, Tryz.ntmps56
    go_wp2_with (first | (refine ev_alloc (N := 6) rfl rfl 113 rfl _ zero_tk ?_; intro g1 w1 hg1 R1 B1))
    have O1 : Only (fun _ => False) w w1 := Only.of_below B1
    have hp1 := HP.out.only O1 (fun h => h) (fun h => h)
    have his := is_any k x g b l er w1 hp1 HE.out
    rw [HQ.out] at his
    refine his.mono ?_
    rintro _ w1 ⟨rfl, rfl⟩
    have hr := HR.out
    have Rg := hr.1.below B1
    have cg1 : w1.cell? ⟨g, 0, none⟩ = some (.slice (some ⟨b, off, none⟩) l.length c) := Rg.cell 0
    have hTd := (hr.2.1.only O1 (fun h => h)).hd HE.out.ne
    rw [← HTT.out] at hTd
    obtain ⟨d0, d1, d2, d3, d4⟩ := hTd
    clear hr hp1 his
    go_wp2_with (first
      | (refine ev_alloc (N := 7) rfl rfl 113 rfl _ zero_tk ?_; intro g2 w2 hg2 R2 B2; have cg2 := cell_then cg1 B2)
      | (refine ev_store rfl 113 (.tmp 7) _ rfl g2 (tk t).toArray rfl rfl R2 (tk_info _) rfl (tk_one _) rfl ?_; intro w3 R3 S3; have cg3 : w3.cell? ⟨g, 0, none⟩ = some (.slice (some ⟨b, off, none⟩) l.length c) := (S3.cell _ (by have := B1.size; show g ≠ g2; omega)).trans cg2; have hn2g : g2 ≠ g := (by have := B1.size; omega); have hn1g : g1 ≠ g := (by omega); have hn12 : g1 ≠ g2 := (by have := R1.lt; omega); have zg : w3.frozen? ⟨g, 0, none⟩ = false := ((Rg.below B2).stored S3 hn2g.symm).frozen 0)
      | (refine ev_load (N := 30) rfl rfl 113 (.tmp 7) rfl g2 rfl (R3.other _ hn2g _) _ Tryz.underlying113 rfl (tk_info t) ?_)
      | (refine ev_store rfl 113 (.tmp 6) _ rfl g1 (tk t).toArray rfl rfl (((R1.below B2).stored S3 hn12).other _ hn1g _) (tk_info _) rfl (tk_one _) rfl ?_; intro w5 R5 S5; have f0 : w5.cell? ⟨g1, 0, none⟩ = some (.int .i64 (t.kind : Int)) := R5.cell 0; have f1 : w5.cell? ⟨g1, 1, none⟩ = some (.string ⟨t.text.toArray⟩) := R5.cell 1; have f2 : w5.cell? ⟨g1, 2, none⟩ = some (.int .i64 t.num) := R5.cell 2; have f3 : w5.cell? ⟨g1, 3, none⟩ = some (.int .i32 t.day) := R5.cell 3; have f4 : w5.cell? ⟨g1, 4, none⟩ = some (.int .i64 (t.pos : Int)) := R5.cell 4))
    have hr := HR.out
    have O5 : Only (· = g) w w5 := ((((Only.of_below (S := (· = g)) B1).then_below (B2.mono B1.size)).stored S3 (.inr (by have := B1.size; omega))).setCell (.inl rfl) _).stored S5 (.inr hg1)
    have RG := (((Rg.below B2).stored S3 hn2g.symm).set 0 (.slice (some ⟨b, off + 5, none⟩) (l.length - 1) (c - 1))).stored S5 hn1g.symm
    exact bodyPost_ret (v := .agg (tk t).toArray) (by simp [results, Tryz.results56, go_sem, f0, f1, f2, f3, f4, tk]) rfl ⟨rfl, ⟨off + 5, c - 1, by rw [List.length_tail]; exact RG, hr.2.1.tail.only O5 hr.2.2.2.2.1, by rw [List.length_tail]; omega, by omega, hr.2.2.2.2.1, hr.2.2.2.2.2⟩, O5⟩
end Go.Proofs.YtbhjkddjgikaiaaGreatDoor

namespace Go.Proofs.YtbhjkddjgikaiaaGreatDoor
open Go.RowKit
set_option linter.unusedVariables false
set_option linter.unusedSimpArgs false
def qbad (lo hi : Int) (q : QS) : Prop := isQ 2 [] q.1 q.2 = true ∧ ((Sc.hd q.1).num < lo ∨ hi < (Sc.hd q.1).num)
instance (lo hi : Int) (q : QS) : Decidable (qbad lo hi q) := by unfold qbad; infer_instance
def qmark (lo hi : Int) (q : QS) : QS := if qbad lo hi q then (q.1, some ((Sc.hd q.1).pos, 5)) else q
def qnum (lo hi : Int) (q : QS) : Int × QS := ((qneed 2 [] (qmark lo hi q)).1.num, (qneed 2 [] (qmark lo hi q)).2)
theorem qmark_fst (lo hi : Int) (q : QS) : (qmark lo hi q).1 = q.1 := by unfold qmark; split <;> rfl
theorem qnum_ended {lo hi : Int} {q : QS} (hE : Sc.Ended q.1) : Sc.Ended (qnum lo hi q).2.1 ∧ (qnum lo hi q).2.1.length ≤ q.1.length := by
  have := qneed_ended (k := 2) (x := []) (q := qmark lo hi q) (by omega) (by rw [qmark_fst]; exact hE)
  rw [qmark_fst] at this
  exact this
/-- the number is 0, or as told -/
theorem qnum_in {lo hi : Int} {q : QS} : (qnum lo hi q).1 = 0 ∨ (lo ≤ (qnum lo hi q).1 ∧ (qnum lo hi q).1 ≤ hi) := by
  unfold qnum qneed
  by_cases hq : isQ 2 [] (qmark lo hi q).1 (qmark lo hi q).2 = true
  · rw [if_pos hq]
    by_cases hb : qbad lo hi q
    · unfold qmark at hq
      rw [if_pos hb] at hq
      simp [isQ] at hq
    · have e : qmark lo hi q = q := by unfold qmark; rw [if_neg hb]
      rw [e] at hq ⊢
      right
      have : ¬ ((Sc.hd q.1).num < lo ∨ hi < (Sc.hd q.1).num) := fun h => hb ⟨hq, h⟩
      show lo ≤ (Sc.hd q.1).num ∧ (Sc.hd q.1).num ≤ hi
      omega
  · rw [if_neg hq]
    exact .inl rfl
set_option maxHeartbeats 2000000 in
set_option maxRecDepth 100000 in
theorem qnum_any (lo hi : Int) (g b : Nat) (l : List Lx.Tk) (er : Option (Nat × Nat)) (w : World) (h : QsAt w g b l er) (hE : Sc.Ended l) :
    Calls Tryz.prog 103 #[.pointer (some ⟨g, 0, none⟩), .int .i64 lo, .int .i64 hi] w fun e w' => e = .returned (.int .i64 (qnum lo hi (l, er)).1) ∧ QsAt w' g b (qnum lo hi (l, er)).2.1 (qnum lo hi (l, er)).2.2 ∧ Only (· = g) w w' := by
  have HP := Lib.hid h
  have HE := Lib.hid hE
  have his := is_any 2 [] g b l er w h hE
  obtain ⟨off, c, R, hT, hc, hm, hne, her⟩ := h
  have cg : w.cell? ⟨g, 0, none⟩ = some (.slice (some ⟨b, off, none⟩) l.length c) := R.cell 0
  obtain ⟨_, _, k2, _, _⟩ := hT.hd hE.ne
  have i1 : (0 : Int) < (l.length : Int) := by have := hE.ne; omega
  clear R hT hc hm hne her hE
  cases hq : isQ 2 [] l er
  · have hmk : qmark lo hi (l, er) = (l, er) := by unfold qmark; rw [if_neg (by unfold qbad; simp [hq])]
    unfold qnum
    rw [hmk]
    rw [hq] at his
    have HI := Lib.hid his
    have HN := Lib.hid (need_any 2 [] (by omega) g b l er w HP.out HE.out)
    generalize (qneed 2 [] (l, er)) = r at *
    obtain ⟨t, q⟩ := r
    clear his hq hmk
    go_enter Tryz.func103, Tryz.ntmps103
    go_wp2_with fail
    refine HI.out.mono ?_
    rintro _ w ⟨rfl, rfl⟩
    go_wp2_with fail
    refine HN.out.mono ?_
    rintro _ w5 ⟨rfl, hp, O⟩
    have hf := tk_num t
    unfold tk
    go_wp2_with fail
    go_ret
    exact ⟨rfl, hp, O⟩
  · rw [hq] at his
    have HI := Lib.hid his
    have hern : er = none := by unfold isQ at hq; simp at hq; exact hq.1
    subst hern
    by_cases hb : (Sc.hd l).num < lo ∨ hi < (Sc.hd l).num
    · have hmk : qmark lo hi (l, none) = (l, some ((Sc.hd l).pos, 5)) := by unfold qmark; rw [if_pos ⟨hq, hb⟩]
      unfold qnum
      rw [hmk]
      have HN : Hid (∀ w', QsAt w' g b l (some ((Sc.hd l).pos, 5)) → _) := Lib.hid (fun w' hp => need_any 2 [] (by omega) g b l (some ((Sc.hd l).pos, 5)) w' hp HE.out)
      generalize (qneed 2 [] (l, some ((Sc.hd l).pos, 5))) = r at *
      obtain ⟨t, q⟩ := r
      have hb : (Sc.hd l).num < lo ∨ (¬ (Sc.hd l).num < lo ∧ hi < (Sc.hd l).num) := by omega
      have HW := Lib.hid (wrong_any 5 (by omega) g b l none w HP.out HE.out)
      generalize (Sc.hd l).num = n at *
      clear his hq hmk
      rcases hb with hb | ⟨hb, hb2⟩
      all_goals
        go_enter Tryz.func103, Tryz.ntmps103
        go_wp2_with fail
        refine HI.out.mono ?_
        rintro _ w ⟨rfl, rfl⟩
        go_wp2_with fail
        refine HW.out.mono ?_
        rintro _ w2 ⟨rfl, hp2, O2⟩
        go_wp2_with fail
        refine (HN.out w2 hp2).mono ?_
        rintro _ w5 ⟨rfl, hp, O⟩
        have hf := tk_num t
        unfold tk
        go_wp2_with fail
        go_ret
        exact ⟨rfl, hp, O2.trans O⟩
    · have hmk : qmark lo hi (l, none) = (l, none) := by unfold qmark; rw [if_neg (fun h => hb h.2)]
      unfold qnum
      rw [hmk]
      have HN := Lib.hid (need_any 2 [] (by omega) g b l none w HP.out HE.out)
      generalize (qneed 2 [] (l, none)) = r at *
      obtain ⟨t, q⟩ := r
      have hb1 : ¬ (Sc.hd l).num < lo := fun h => hb (.inl h)
      have hb2 : ¬ hi < (Sc.hd l).num := fun h => hb (.inr h)
      generalize (Sc.hd l).num = n at *
      clear his hq hmk hb
      go_enter Tryz.func103, Tryz.ntmps103
      go_wp2_with fail
      refine HI.out.mono ?_
      rintro _ w ⟨rfl, rfl⟩
      go_wp2_with fail
      refine HN.out.mono ?_
      rintro _ w5 ⟨rfl, hp, O⟩
      have hf := tk_num t
      unfold tk
      go_wp2_with fail
      go_ret
      exact ⟨rfl, hp, O⟩
end Go.Proofs.YtbhjkddjgikaiaaGreatDoor
