/-
  Own texts, several in one (Law12b, Law12d).
-/
import Derived.Test.YtbnhodpbamijkaaGreatDoorMrg24
import Derived.Test.YtbnhodpbamijkaaGreatDoorMrg23
namespace Go.Proofs.YtbnhodpbamijkaaGreatDoor
open Go.RowKit
set_option linter.unusedVariables false
set_option linter.unusedSimpArgs false

namespace Lx
theorem getD_join (ls ms : List Tk) (k i : Nat) (hl : 0 < ls.length) : (ls.dropLast ++ ms.map (Tk.up k)).getD i tk0 = if i + 1 < ls.length then ls.getD i tk0 else if i + 1 - ls.length < ms.length then (ms.getD (i + 1 - ls.length) tk0).up k else tk0 := by
  rw [List.getD_eq_getElem?_getD]
  by_cases h : i + 1 < ls.length
  · rw [if_pos h, List.getElem?_append_left (by rw [List.length_dropLast]; omega), List.getElem?_dropLast, if_pos (by omega), ← List.getD_eq_getElem?_getD]
  · rw [if_neg h, List.getElem?_append_right (by rw [List.length_dropLast]; omega), List.length_dropLast, List.getElem?_map, show i - (ls.length - 1) = i + 1 - ls.length by omega]
    by_cases h2 : i + 1 - ls.length < ms.length
    · rw [if_pos h2, List.getElem?_eq_getElem h2, List.getD_eq_getElem?_getD, List.getElem?_eq_getElem h2]
      rfl
    · rw [if_neg h2, List.getElem?_eq_none (by omega)]
      rfl
/-- no token stands behind its text's end -/
theorem split_pos (pd : List UInt8 → Option Int) (l : List UInt8) (i : Nat) : ∀ ts, split pd l i = .ok ts → ∀ t ∈ ts, t.pos ≤ i + l.length := by
  refine split_ind (motive := fun l i => ∀ ts, split pd l i = .ok ts → ∀ t ∈ ts, t.pos ≤ i + l.length) pd (fun i => ?_) (fun c r i h ih => ?_) (fun r i ih => ?_) (fun c r i e h1 h2 h3 h => ?_) (fun c r i t n h1 h2 h3 h hn hn2 ih => ?_) l.length l i (Nat.le_refl _)
  · intro ts h t ht
    rw [split_nil] at h
    obtain rfl := Except.ok.inj h
    simp at ht
    subst ht
    exact Nat.le_refl _
  · intro ts hh t ht
    rw [split_blank pd c r i h] at hh
    have := ih ts hh t ht
    rw [List.length_cons]; omega
  · intro ts hh t ht
    rw [split_note] at hh
    have := ih ts hh t ht
    have := run_le note (35 :: r)
    rw [List.length_drop] at *
    omega
  · intro ts hh
    rw [split_err pd c r i e h1 h2 h3 h] at hh
    cases hh
  · intro ts hh x hx
    rw [split_one pd c r i t n h1 h2 h3 h] at hh
    rcases hs : split pd ((c :: r).drop n) (i + n) with e | us
    · rw [hs] at hh; cases hh
    · rw [hs] at hh
      obtain rfl := Except.ok.inj hh
      rcases List.mem_cons.1 hx with rfl | hx
      · show i ≤ _; omega
      · have := ih us hs x hx
        rw [List.length_drop] at this
        simp only [List.length_cons] at *
        omega
end Lx
/-- a block of one's own behind another block's making and writing -/
theorem Row.through {w5 w6 w7 w8 : World} {g1 g2 : Nat} {cs : Array Value} {t : TypeId} (R : Row w5 g1 cs t) (B : Below w5.heap.size w5 w6) (S4 : Stored w6 g2 w7) (S5 : Stored w7 g2 w8) (h : w5.heap.size ≤ g2) : Row w8 g1 cs t := by
  have hne : g1 ≠ g2 := by have := R.lt; omega
  exact (S5.other g1 hne).trans ((S4.other g1 hne).trans (R.below B))
theorem Row.tok {w : World} {g k : Nat} {T : TypeId} {t u : Lx.Tk} (R : Row w g (tk t).toArray T) (h : t = u.up k) : Row w g #[.int .i64 (t.kind : Int), .string ⟨t.text.toArray⟩, .int .i64 t.num, .int .i32 t.day, .int .i64 (t.pos : Int)] T := R
theorem Row.tok2 {w : World} {g k : Nat} {T : TypeId} {t u : Lx.Tk} {z : Int} (R : Row w g ((tk u).toArray.setIfInBounds 4 (.int .i64 z)) T) (h : t = u.up k ∧ z = (u.pos : Int) + (k : Int)) : Row w g #[.int .i64 (t.kind : Int), .string ⟨t.text.toArray⟩, .int .i64 t.num, .int .i32 t.day, .int .i64 (t.pos : Int)] T := by
  obtain ⟨rfl, rfl⟩ := h
  exact R
theorem split_err0 (l : List UInt8) (i : Nat) (p e : Nat) (h : Lx.split Dy.parse l i = .error (p, e)) : e ≠ 0 := by
  revert h
  refine Lx.split_ind (motive := fun l i => Lx.split Dy.parse l i = .error (p, e) → e ≠ 0) Dy.parse (fun i => ?_) (fun c r i h ih => ?_) (fun r i ih => ?_) (fun c r i e2 h1 h2 h3 h => ?_) (fun c r i t n h1 h2 h3 h hn hn2 ih => ?_) l.length l i (Nat.le_refl _)
  · intro h; rw [Lx.split_nil] at h; cases h
  · intro hh; rw [Lx.split_blank _ c r i h] at hh; exact ih hh
  · intro hh; rw [Lx.split_note] at hh; exact ih hh
  · intro hh
    rw [Lx.split_err _ c r i e2 h1 h2 h3 h] at hh
    cases hh
    exact Lx.one_err _ _ _ h
  · intro hh
    rw [Lx.split_one _ c r i t n h1 h2 h3 h] at hh
    rcases hs : Lx.split Dy.parse ((c :: r).drop n) (i + n) with ⟨p2, e2⟩ | ts
    · rw [hs] at hh ih
      cases hh
      exact ih rfl
    · rw [hs] at hh; cases hh
theorem split_len (l : List UInt8) (i : Nat) (ts : List Lx.Tk) (h : Lx.split Dy.parse l i = .ok ts) : ts.length ≤ l.length + 1 := by
  obtain ⟨_, _, _, _, hn⟩ := Lx.split_again Dy.parse l i ts h 0
  exact hn
/-- Split's contract at one text -/
def okS (s : ByteArray) (r : Except (Nat × Nat) (List Lx.Tk)) : Prop := ∀ W, Glb5 W → Calls Tryz.prog 12 #[.string s] W fun e w' => (∃ v, e = .returned v ∧ spR w' W.heap.size r v) ∧ Below W.heap.size W w'
set_option maxHeartbeats 8000000 in
set_option maxRecDepth 100000 in
theorem lexJoins_ok (a b : ByteArray) (w : World) (hA : Calls Tryz.prog 11 #[] w fun e w' => e = .returned (.bool true) ∧ Below w.heap.size w w') (hM : Glb5 w) (q1 : ¬ (500 : Int) < (a.size : Int)) (q2 : ¬ (500 : Int) < (b.size : Int)) (ls ms : List Lx.Tk) (hl : 0 < ls.length ∧ ls.length ≤ 501) (hm : 0 < ms.length ∧ ms.length ≤ 501) (hp : ∀ u ∈ ms, u.pos ≤ 500)
    (hX : okS a (.ok ls)) (hY : okS b (.ok ms)) (hZ : okS (a ++ (⟨#[10]⟩ : ByteArray) ++ b) (.ok (ls.dropLast ++ ms.map (Lx.Tk.up (a.size + 1))))) :
    Calls Tryz.prog 4 #[.string a, .string b] w fun e w' => e = .returned (.bool true) ∧ Below w.heap.size w w' := by
  have HA := Lib.hid hA
  have HM := Lib.hid hM
  have HX := Lib.hid hX
  have HY := Lib.hid hY
  have HZ := Lib.hid hZ
  have HL := Lib.hid (And.intro hl hm)
  have HP := Lib.hid hp
  obtain ⟨ns, hns⟩ : ∃ ns, ns = ls.dropLast ++ ms.map (Lx.Tk.up (a.size + 1)) := ⟨_, rfl⟩
  rw [← hns] at HZ
  have hnl : ns.length + 1 = ls.length + ms.length := by rw [hns, List.length_append, List.length_dropLast, List.length_map]; omega
  have HN := Lib.hid (And.intro hns hnl)
  clear hA hM hX hY hZ hl hm hp hns hnl
  go_enter Tryz.func4, Tryz.ntmps4
  go_wp2_with fail
  refine HA.out.mono ?_
  rintro _ w1 ⟨rfl, hb1⟩
  have HB1 := Lib.hid hb1
  clear hb1
  go_wp2_with fail
  refine (HX.out w1 (HM.out.below HB1.out)).mono ?_
  rintro _ w2 ⟨⟨r, rfl, v2, rfl, ho2⟩, hb2⟩
  have HB2 := Lib.hid (below_then HB1.out hb2)
  have HO2 := Lib.hid ho2
  clear ho2
  clear hb2
  go_wp2_with fail
  refine (HY.out w2 (HM.out.below HB2.out)).mono ?_
  rintro _ w3 ⟨⟨r, rfl, v3, rfl, ho3⟩, hb3⟩
  have HB3 := Lib.hid (below_then HB2.out hb3)
  have HO23 := Lib.hid (ownW_below HO2.out hb3)
  have HO3 := Lib.hid ho3
  clear ho3
  clear hb3
  go_wp2_with fail
  refine (HZ.out w3 (HM.out.below HB3.out)).mono ?_
  rintro _ w4 ⟨⟨r, rfl, v4, rfl, ho4⟩, hb4⟩
  have HB4 := Lib.hid (below_then HB3.out hb4)
  obtain ⟨_, pl, cl, rfl, hEl⟩ := els_own (ownW_below HO23.out hb4)
  obtain ⟨_, pm, cm, rfl, hEm⟩ := els_own (ownW_below HO3.out hb4)
  obtain ⟨_, pn, cn, rfl, hEn⟩ := els_own ho4
  have HE := Lib.hid (And.intro hEl (And.intro hEm hEn))
  clear ho4 hEl hEm hEn
  clear hb4
  have e1 : IntKind.i64.wrap ((ls.length : Int) + (ms.length : Int)) = (ls.length : Int) + (ms.length : Int) := by have := HL.out; rw [IntKind.wrap_i64]; omega
  have e2 : IntKind.i64.wrap ((ls.length : Int) + (ms.length : Int) - 1) = (ls.length : Int) + (ms.length : Int) - 1 := by have := HL.out; rw [IntKind.wrap_i64]; omega
  have n1 : ((ns.length : Int) != (ls.length : Int) + (ms.length : Int) - 1) = false := by have := HN.out.2; rw [bne_eq_false_iff_eq]; omega
  go_wp2_with fail
  clear e1 e2 n1
  go_loopw [71] (fun iv wr => ∃ i : Nat, i ≤ ns.length ∧ iv = .int .i64 (i : Int) ∧ Below w4.heap.size w4 wr) (fun iv _ => ns.length - (intOf iv).toNat)
  case atStart => exact ⟨0, by omega, rfl, Below.refl _ _⟩
  case round =>
    obtain ⟨i, hi, rfl, BB⟩ := hrel
    have HBB := Lib.hid BB
    clear BB
    by_cases hlt : i < ns.length
    · obtain ⟨bn, on, rfl, en⟩ : ∃ b off, pn = some ⟨b, off, none⟩ ∧ ∀ i, i < ns.length → w4.rangeAt b (off + i * 5) (tk (ns.getD i Lx.tk0)) := by
        rcases HE.out.2.2 with h | h
        · exact absurd hlt (by rw [h]; simp)
        · exact h
      have Xbn := range_below (en i hlt) HBB.out
      have hgd := Lx.getD_join ls ms (a.size + 1) i HL.out.1.1
      rw [← HN.out.1] at hgd
      obtain ⟨t, ht⟩ : ∃ t, t = ns.getD i Lx.tk0 := ⟨_, rfl⟩
      rw [← ht] at Xbn hgd
      have wrbn0 : wr.cell? ⟨bn, on + i * 5, none⟩ = some (.int .i64 (t.kind : Int)) := Xbn 0 _ rfl; have wrbn1 : wr.cell? ⟨bn, on + i * 5 + 1, none⟩ = some (.string ⟨t.text.toArray⟩) := Xbn 1 _ rfl; have wrbn2 : wr.cell? ⟨bn, on + i * 5 + 2, none⟩ = some (.int .i64 t.num) := Xbn 2 _ rfl; have wrbn3 : wr.cell? ⟨bn, on + i * 5 + 3, none⟩ = some (.int .i32 t.day) := Xbn 3 _ rfl; have wrbn4 : wr.cell? ⟨bn, on + i * 5 + 4, none⟩ = some (.int .i64 (t.pos : Int)) := Xbn 4 _ rfl
      have i0 : (0 : Int) ≤ (i : Int) := by omega
      have i1 : (i : Int) < (ns.length : Int) := by omega
      have e3 : IntKind.i64.wrap ((ls.length : Int) - 1) = (ls.length : Int) - 1 := by have := HL.out; rw [IntKind.wrap_i64]; omega
      have e4 : IntKind.i64.wrap ((i : Int) + 1) = (i : Int) + 1 := by have := HN.out; have := HL.out; rw [IntKind.wrap_i64]; omega
      have HNE := Lib.hid (neq_tk t)
      have HI := Lib.hid hlt
      by_cases c : i + 1 < ls.length
      · rw [if_pos c] at hgd
        obtain ⟨bl, ol, rfl, el⟩ : ∃ b off, pl = some ⟨b, off, none⟩ ∧ ∀ i, i < ls.length → w4.rangeAt b (off + i * 5) (tk (ls.getD i Lx.tk0)) := by
          rcases HE.out.1 with h | h
          · exact absurd c (by rw [h]; simp)
          · exact h
        have hxl := el i (by omega)
        rw [← hgd] at hxl
        have HXbl := Lib.hid hxl
        have j1 : (i : Int) < (ls.length : Int) - 1 := by omega
        have j2 : (i : Int) < (ls.length : Int) := by omega
        clear hxl el en ht hgd c hlt hi Xbn
        go_wp2_with (first
          | (refine ev_alloc (N := 15) rfl rfl 31 rfl _ zero_tk ?_; intro g1 w5 hg1 R1 B1)
          | (refine ev_store rfl 31 (Operand.tmp 15) _ rfl g1 (tk t).toArray rfl rfl R1 (tk_info _) rfl (tk_one _) rfl ?_; intro w6 R2 S2)
          | (refine ev_alloc (N := 16) rfl rfl 31 rfl _ zero_tk ?_; intro g2 w7 hg2 R3 B3)
          | (refine ev_store rfl 31 (Operand.tmp 16) (Operand.tmp 76) rfl g2 (tk Lx.tk0).toArray rfl rfl R3 (tk_info _) rfl (tk_one _) rfl ?_; intro w8 R4 S4; have B8 : Below w4.heap.size w4 w8 := S4.below (below_then (S2.below (below_then HBB.out B1) (Nat.le_trans HBB.out.size hg1)) B3) (Nat.le_trans (S2.below (below_then HBB.out B1) (Nat.le_trans HBB.out.size hg1)).size hg2); have Xbl := range_below HXbl.out B8; have w8bl0 : w8.cell? ⟨bl, ol + i * 5, none⟩ = some (.int .i64 (t.kind : Int)) := Xbl 0 _ rfl; have w8bl1 : w8.cell? ⟨bl, ol + i * 5 + 1, none⟩ = some (.string ⟨t.text.toArray⟩) := Xbl 1 _ rfl; have w8bl2 : w8.cell? ⟨bl, ol + i * 5 + 2, none⟩ = some (.int .i64 t.num) := Xbl 2 _ rfl; have w8bl3 : w8.cell? ⟨bl, ol + i * 5 + 3, none⟩ = some (.int .i32 t.day) := Xbl 3 _ rfl; have w8bl4 : w8.cell? ⟨bl, ol + i * 5 + 4, none⟩ = some (.int .i64 (t.pos : Int)) := Xbl 4 _ rfl)
          | (refine ev_store rfl 31 (Operand.tmp 16) (Operand.tmp 85) rfl g2 (tk t).toArray rfl rfl R4 (tk_info _) rfl (tk_one _) rfl ?_; intro w9 R5 S5; have RT : Row w9 g1 #[.int .i64 (t.kind : Int), .string ⟨t.text.toArray⟩, .int .i64 t.num, .int .i32 t.day, .int .i64 (t.pos : Int)] 31 := Row.through R2 B3 S4 S5 hg2; have RW : Row w9 g2 #[.int .i64 (t.kind : Int), .string ⟨t.text.toArray⟩, .int .i64 t.num, .int .i32 t.day, .int .i64 (t.pos : Int)] 31 := R5; have B9 : Below w4.heap.size w4 w9 := S5.below B8 (Nat.le_trans (S2.below (below_then HBB.out B1) (Nat.le_trans HBB.out.size hg1)).size hg2); have HB9 := Lib.hid B9)
          | (refine ev_load rfl rfl 31 (Operand.tmp 15) rfl g1 rfl RT _ Tryz.underlying31 rfl (tk_info t) ?_)
          | (refine ev_load rfl rfl 31 (Operand.tmp 16) rfl g2 rfl RW _ Tryz.underlying31 rfl (tk_info t) ?_))
        exact ⟨⟨i + 1, HI.out, by simp, HB9.out⟩, by have := HI.out; simp [intOf]; omega⟩
      · rw [if_neg c] at hgd
        have hq : i + 1 - ls.length < ms.length := by have := HN.out.2; omega
        rw [if_pos hq] at hgd
        obtain ⟨q, hqe⟩ : ∃ q, q = i + 1 - ls.length := ⟨_, rfl⟩
        rw [← hqe] at hgd hq
        obtain ⟨bm, om, rfl, em⟩ : ∃ b off, pm = some ⟨b, off, none⟩ ∧ ∀ i, i < ms.length → w4.rangeAt b (off + i * 5) (tk (ms.getD i Lx.tk0)) := by
          rcases HE.out.2.1 with h | h
          · exact absurd hq (by rw [h]; simp)
          · exact h
        have hxm := em q hq
        have hpos := HP.out _ (getD_mem (d := Lx.tk0) hq)
        obtain ⟨u, hu⟩ : ∃ u, u = ms.getD q Lx.tk0 := ⟨_, rfl⟩
        rw [← hu] at hxm hgd hpos
        have HXbm := Lib.hid hxm
        have j1 : ¬ (i : Int) < (ls.length : Int) - 1 := by omega
        have j3 : IntKind.i64.wrap ((i : Int) - (ls.length : Int)) = (i : Int) - (ls.length : Int) := by have := HL.out; have := HN.out; rw [IntKind.wrap_i64]; omega
        have j4 : IntKind.i64.wrap ((i : Int) - (ls.length : Int) + 1) = (q : Int) := by have := HL.out; have := HN.out; rw [IntKind.wrap_i64]; omega
        have j5 : (0 : Int) ≤ (q : Int) := by omega
        have j6 : (q : Int) < (ms.length : Int) := by omega
        have j7 : IntKind.i64.wrap ((a.size : Int) + 1) = (a.size : Int) + 1 := by rw [IntKind.wrap_i64]; omega
        have j8 : IntKind.i64.wrap ((u.pos : Int) + ((a.size : Int) + 1)) = (u.pos : Int) + ((a.size : Int) + 1) := by rw [IntKind.wrap_i64]; omega
        have HTU := Lib.hid hgd
        have HTZ := Lib.hid (show (u.pos : Int) + ((a.size : Int) + 1) = (u.pos : Int) + ((a.size + 1 : Nat) : Int) by omega)
        clear hxm em en ht hgd c hlt hi Xbn hpos hu hq hqe
        go_wp2_with (first
          | (refine ev_alloc (N := 15) rfl rfl 31 rfl _ zero_tk ?_; intro g1 w5 hg1 R1 B1)
          | (refine ev_store rfl 31 (Operand.tmp 15) _ rfl g1 (tk t).toArray rfl rfl R1 (tk_info _) rfl (tk_one _) rfl ?_; intro w6 R2 S2)
          | (refine ev_alloc (N := 16) rfl rfl 31 rfl _ zero_tk ?_; intro g2 w7 hg2 R3 B3)
          | (refine ev_store rfl 31 (Operand.tmp 16) (Operand.tmp 76) rfl g2 (tk Lx.tk0).toArray rfl rfl R3 (tk_info _) rfl (tk_one _) rfl ?_; intro w8 R4 S4; have B8 : Below w4.heap.size w4 w8 := S4.below (below_then (S2.below (below_then HBB.out B1) (Nat.le_trans HBB.out.size hg1)) B3) (Nat.le_trans (S2.below (below_then HBB.out B1) (Nat.le_trans HBB.out.size hg1)).size hg2); have Xbm := range_below HXbm.out B8; have w8bm0 : w8.cell? ⟨bm, om + q * 5, none⟩ = some (.int .i64 (u.kind : Int)) := Xbm 0 _ rfl; have w8bm1 : w8.cell? ⟨bm, om + q * 5 + 1, none⟩ = some (.string ⟨u.text.toArray⟩) := Xbm 1 _ rfl; have w8bm2 : w8.cell? ⟨bm, om + q * 5 + 2, none⟩ = some (.int .i64 u.num) := Xbm 2 _ rfl; have w8bm3 : w8.cell? ⟨bm, om + q * 5 + 3, none⟩ = some (.int .i32 u.day) := Xbm 3 _ rfl; have w8bm4 : w8.cell? ⟨bm, om + q * 5 + 4, none⟩ = some (.int .i64 (u.pos : Int)) := Xbm 4 _ rfl)
          | (refine ev_store rfl 31 (Operand.tmp 16) (Operand.tmp 93) rfl g2 (tk u).toArray rfl rfl R4 (tk_info _) rfl (tk_one _) rfl ?_; intro w9 R5 S5; have hge : w4.heap.size ≤ g2 := Nat.le_trans (S2.below (below_then HBB.out B1) (Nat.le_trans HBB.out.size hg1)).size hg2; have f4 : w9.cell? ⟨g2, 4, none⟩ = some (.int .i64 (u.pos : Int)) := R5.cell 4; have z4 : w9.frozen? ⟨g2, 4, none⟩ = false := R5.frozen 4; have RT : Row (w9.setCell ⟨g2, 4, none⟩ (.int .i64 ((u.pos : Int) + ((a.size : Int) + 1)))) g1 #[.int .i64 (t.kind : Int), .string ⟨t.text.toArray⟩, .int .i64 t.num, .int .i32 t.day, .int .i64 (t.pos : Int)] 31 := (Row.through R2 B3 S4 (S5.trans (stored_setCell w9 g2 4 _)) hg2).tok HTU.out; have RW : Row (w9.setCell ⟨g2, 4, none⟩ (.int .i64 ((u.pos : Int) + ((a.size : Int) + 1)))) g2 #[.int .i64 (t.kind : Int), .string ⟨t.text.toArray⟩, .int .i64 t.num, .int .i32 t.day, .int .i64 (t.pos : Int)] 31 := (R5.set 4 (.int .i64 ((u.pos : Int) + ((a.size : Int) + 1)))).tok2 ⟨HTU.out, HTZ.out⟩; have B9 : Below w4.heap.size w4 (w9.setCell ⟨g2, 4, none⟩ (.int .i64 ((u.pos : Int) + ((a.size : Int) + 1)))) := (S5.trans (stored_setCell w9 g2 4 _)).below B8 hge; have HB9 := Lib.hid B9)
          | (refine ev_load rfl rfl 31 (Operand.tmp 15) rfl g1 rfl RT _ Tryz.underlying31 rfl (tk_info t) ?_)
          | (refine ev_load rfl rfl 31 (Operand.tmp 16) rfl g2 rfl RW _ Tryz.underlying31 rfl (tk_info t) ?_))
        exact ⟨⟨i + 1, HI.out, by simp, HB9.out⟩, by have := HI.out; simp [intOf]; omega⟩
    · obtain rfl : i = ns.length := by omega
      have i1 : ¬ (ns.length : Int) < (ns.length : Int) := by omega
      go_wp2_with fail
      exact bodyPost_ret (v := .bool true) (by simp [results, Tryz.results4, go_sem]) rfl ⟨rfl, below_then HB4.out HBB.out⟩
set_option maxHeartbeats 4000000 in
theorem lexJoins_law (a b : ByteArray) (ha : a.size ≤ 140737488351232) (hb : b.size ≤ 140737488351232) (w : World) (hM : Glb5 w) :
    Calls Tryz.prog 4 #[.string a, .string b] w fun e w' => e = .returned (.bool true) ∧ Below w.heap.size w w' := by
  have HM := Lib.hid hM
  have HA := Lib.hid (awake12 w hM)
  by_cases h : 500 < a.size ∨ 500 < b.size
  · have q : (500 : Int) < (a.size : Int) ∨ (¬ (500 : Int) < (a.size : Int) ∧ (500 : Int) < (b.size : Int)) := by omega
    clear hM h
    rcases q with q | ⟨q, q2⟩
    all_goals
      go_enter Tryz.func4, Tryz.ntmps4
      go_wp2_with fail
      refine HA.out.mono ?_
      rintro _ w1 ⟨rfl, hb⟩
      go_wp2_with fail
      exact bodyPost_ret (v := .bool true) (by simp [results, Tryz.results4, go_sem]) rfl ⟨rfl, hb⟩
  · have q1 : ¬ (500 : Int) < (a.size : Int) := by omega
    have q2 : ¬ (500 : Int) < (b.size : Int) := by omega
    obtain ⟨la, hla⟩ : ∃ l, l = a.data.toList := ⟨_, rfl⟩
    obtain ⟨lb, hlb⟩ : ∃ l, l = b.data.toList := ⟨_, rfl⟩
    have hsa : a.size = la.length := by rw [hla]; exact size_data a
    have hsb : b.size = lb.length := by rw [hlb]; exact size_data b
    have hj : (a ++ (⟨#[10]⟩ : ByteArray) ++ b).data.toList = la ++ 10 :: lb := by rw [hla, hlb]; simp
    have HX : Hid (okS a (Lx.split Dy.parse la 0)) := Lib.hid fun W hW => splitL_any a la hla (by omega) W hW
    have HY : Hid (okS b (Lx.split Dy.parse lb 0)) := Lib.hid fun W hW => splitL_any b lb hlb (by omega) W hW
    have HZ : Hid (okS (a ++ (⟨#[10]⟩ : ByteArray) ++ b) (Lx.split Dy.parse (la ++ 10 :: lb) 0)) := Lib.hid fun W hW => splitL_any (a ++ (⟨#[10]⟩ : ByteArray) ++ b) (la ++ 10 :: lb) hj.symm (by simp; omega) W hW
    have hjoin := Lx.split_join Dy.parse lb la 0
    have hup := Lx.split_up Dy.parse (la.length + 1) lb 0
    rw [show 0 + (la.length + 1) = 0 + la.length + 1 by omega] at hup
    rw [hup] at hjoin
    rw [hjoin] at HZ
    rcases hra : Lx.split Dy.parse la 0 with ⟨pa, ea⟩ | ls
    · have hne := split_err0 la 0 _ _ hra
      have n0 : ((ea : Int) != 0) = true := bne_iff_ne.2 (by omega)
      rw [hra] at HX HZ
      have HZ : Hid (okS (a ++ (⟨#[10]⟩ : ByteArray) ++ b) (.error (pa, ea))) := HZ
      rcases hrb : Lx.split Dy.parse lb 0 with ⟨pb, eb⟩ | ms
      · rw [hrb] at HY
        clear hrb hra hne hM h hla hlb hsa hsb hj hjoin hup
        go_enter Tryz.func4, Tryz.ntmps4
        go_wp2_with fail
        refine HA.out.mono ?_
        rintro _ w1 ⟨rfl, hb1⟩
        have HB1 := Lib.hid hb1
        clear hb1
        go_wp2_with fail
        refine (HX.out w1 (HM.out.below HB1.out)).mono ?_
        rintro _ w2 ⟨⟨r, rfl, rfl⟩, hb2⟩
        have HB2 := Lib.hid (below_then HB1.out hb2)
        clear hb2
        go_wp2_with fail
        refine (HY.out w2 (HM.out.below HB2.out)).mono ?_
        rintro _ w3 ⟨⟨r, rfl, rfl⟩, hb3⟩
        have HB3 := Lib.hid (below_then HB2.out hb3)
        clear hb3
        go_wp2_with fail
        refine (HZ.out w3 (HM.out.below HB3.out)).mono ?_
        rintro _ w4 ⟨⟨r, rfl, rfl⟩, hb4⟩
        have HB4 := Lib.hid (below_then HB3.out hb4)
        clear hb4
        go_wp2_with fail
        exact bodyPost_ret (v := .bool true) (by simp [results, Tryz.results4, go_sem]) rfl ⟨rfl, HB4.out⟩
      · rw [hrb] at HY
        clear hrb hra hne hM h hla hlb hsa hsb hj hjoin hup
        go_enter Tryz.func4, Tryz.ntmps4
        go_wp2_with fail
        refine HA.out.mono ?_
        rintro _ w1 ⟨rfl, hb1⟩
        have HB1 := Lib.hid hb1
        clear hb1
        go_wp2_with fail
        refine (HX.out w1 (HM.out.below HB1.out)).mono ?_
        rintro _ w2 ⟨⟨r, rfl, rfl⟩, hb2⟩
        have HB2 := Lib.hid (below_then HB1.out hb2)
        clear hb2
        go_wp2_with fail
        refine (HY.out w2 (HM.out.below HB2.out)).mono ?_
        rintro _ w3 ⟨⟨r, rfl, v3, rfl, ho3⟩, hb3⟩
        have HB3 := Lib.hid (below_then HB2.out hb3)
        clear ho3
        clear hb3
        go_wp2_with fail
        refine (HZ.out w3 (HM.out.below HB3.out)).mono ?_
        rintro _ w4 ⟨⟨r, rfl, rfl⟩, hb4⟩
        have HB4 := Lib.hid (below_then HB3.out hb4)
        clear hb4
        go_wp2_with fail
        exact bodyPost_ret (v := .bool true) (by simp [results, Tryz.results4, go_sem]) rfl ⟨rfl, HB4.out⟩
    · rw [hra] at HX HZ
      rcases hrb : Lx.split Dy.parse lb 0 with ⟨pb, eb⟩ | ms
      · have hne := split_err0 lb 0 _ _ hrb
        have n0 : ((eb : Int) != 0) = true := bne_iff_ne.2 (by omega)
        rw [hrb] at HY HZ
        have HZ : Hid (okS (a ++ (⟨#[10]⟩ : ByteArray) ++ b) (.error (pb + (la.length + 1), eb))) := HZ
        clear hrb hra hne hM h hla hlb hsa hsb hj hjoin hup
        go_enter Tryz.func4, Tryz.ntmps4
        go_wp2_with fail
        refine HA.out.mono ?_
        rintro _ w1 ⟨rfl, hb1⟩
        have HB1 := Lib.hid hb1
        clear hb1
        go_wp2_with fail
        refine (HX.out w1 (HM.out.below HB1.out)).mono ?_
        rintro _ w2 ⟨⟨r, rfl, v2, rfl, ho2⟩, hb2⟩
        have HB2 := Lib.hid (below_then HB1.out hb2)
        clear ho2
        clear hb2
        go_wp2_with fail
        refine (HY.out w2 (HM.out.below HB2.out)).mono ?_
        rintro _ w3 ⟨⟨r, rfl, rfl⟩, hb3⟩
        have HB3 := Lib.hid (below_then HB2.out hb3)
        clear hb3
        go_wp2_with fail
        refine (HZ.out w3 (HM.out.below HB3.out)).mono ?_
        rintro _ w4 ⟨⟨r, rfl, rfl⟩, hb4⟩
        have HB4 := Lib.hid (below_then HB3.out hb4)
        clear hb4
        go_wp2_with fail
        exact bodyPost_ret (v := .bool true) (by simp [results, Tryz.results4, go_sem]) rfl ⟨rfl, HB4.out⟩
      · rw [hrb] at HY HZ
        have hal := split_len la 0 _ hra
        have hane := Lx.split_ne Dy.parse la 0
        have hbl := split_len lb 0 _ hrb
        have hbne := Lx.split_ne Dy.parse lb 0
        have hpos := Lx.split_pos Dy.parse lb 0 ms hrb
        have l0 : 0 < ls.length := by rcases ls with _ | _; exact absurd hra hane; simp
        have m0 : 0 < ms.length := by rcases ms with _ | _; exact absurd hrb hbne; simp
        exact lexJoins_ok a b w HA.out hM q1 q2 ls ms ⟨l0, by omega⟩ ⟨m0, by omega⟩ (fun u hu => by have := hpos u hu; omega) HX.out HY.out (by rw [hsa]; exact HZ.out)
end Go.Proofs.YtbnhodpbamijkaaGreatDoor

namespace Go.Proofs.YtbnhodpbamijkaaGreatDoor
open Go.RowKit
set_option linter.unusedVariables false
set_option linter.unusedSimpArgs false

theorem tk_getD_bare (ts us : List Lx.Tk) (h : us.map Lx.Tk.bare = ts.map Lx.Tk.bare) (i : Nat) (hi : i < ts.length) : us.length = ts.length ∧ (us.getD i Lx.tk0).kind = (ts.getD i Lx.tk0).kind ∧ (us.getD i Lx.tk0).text = (ts.getD i Lx.tk0).text ∧ (us.getD i Lx.tk0).num = (ts.getD i Lx.tk0).num ∧ (us.getD i Lx.tk0).day = (ts.getD i Lx.tk0).day := by
  have hl : us.length = ts.length := by have := congrArg List.length h; simpa using this
  have hg := congrArg (fun l => l.getD i Lx.tk0) h
  simp only [List.getD_eq_getElem?_getD, List.getElem?_map] at hg
  rw [List.getElem?_eq_getElem (by omega), List.getElem?_eq_getElem hi] at hg
  simp only [Option.map_some, Option.getD_some] at hg
  rw [List.getD_eq_getElem?_getD, List.getD_eq_getElem?_getD, List.getElem?_eq_getElem (by omega), List.getElem?_eq_getElem hi]
  have e := Lx.Tk.mk.inj (show Lx.Tk.mk _ _ _ _ _ = Lx.Tk.mk _ _ _ _ _ from hg)
  exact ⟨hl, e.1, e.2.1, e.2.2.1, e.2.2.2.1⟩
theorem rend_step (x : List UInt8) (ts : List Lx.Tk) (k : Nat) (hk : k < ts.length) (hx : x = (ts.take k).flatMap Lx.rend) : x ++ Lx.rend (ts.getD k Lx.tk0) = (ts.take (k + 1)).flatMap Lx.rend := by
  rw [List.take_succ_eq_append_getElem hk, List.flatMap_append, hx, List.getD_eq_getElem?_getD, List.getElem?_eq_getElem hk]
  simp
theorem flat_le (ts : List Lx.Tk) (k : Nat) : ((ts.take k).flatMap Lx.rend).length ≤ (ts.flatMap Lx.rend).length := by
  have : ts.flatMap Lx.rend = (ts.take k).flatMap Lx.rend ++ (ts.drop k).flatMap Lx.rend := by rw [← List.flatMap_append, List.take_append_drop]
  rw [this, List.length_append]; omega
set_option maxHeartbeats 8000000 in
set_option maxRecDepth 100000 in
theorem lexAgain_ok (s : ByteArray) (w : World) (hA : Calls Tryz.prog 11 #[] w fun e w' => e = .returned (.bool true) ∧ Below w.heap.size w w') (hM : Glb5 w) (q1 : ¬ (1000 : Int) < (s.size : Int)) (ts us : List Lx.Tk) (hl : ts.length ≤ 1001) (hr : (ts.flatMap Lx.rend).length ≤ 2001) (hb : us.map Lx.Tk.bare = ts.map Lx.Tk.bare)
    (hX : okS s (.ok ts)) (hY : ∀ y : ByteArray, y.data.toList = ts.flatMap Lx.rend → okS y (.ok us)) :
    Calls Tryz.prog 6 #[.string s] w fun e w' => e = .returned (.bool true) ∧ Below w.heap.size w w' := by
  have HA := Lib.hid hA
  have HM := Lib.hid hM
  have HX := Lib.hid hX
  have HY := Lib.hid hY
  have HL := Lib.hid (And.intro hl hr)
  have HBR := Lib.hid hb
  clear hA hM hX hY hl hr hb
  go_enter Tryz.func6, Tryz.ntmps6
  go_wp2_with fail
  refine HA.out.mono ?_
  rintro _ w1 ⟨rfl, hb1⟩
  have HB1 := Lib.hid hb1
  clear hb1
  go_wp2_with fail
  refine (HX.out w1 (HM.out.below HB1.out)).mono ?_
  rintro _ w2 ⟨⟨r, rfl, v2, rfl, ho2⟩, hb2⟩
  have HB2 := Lib.hid (below_then HB1.out hb2)
  obtain ⟨_, pl, cl, rfl, hEl⟩ := els_own ho2
  have HE := Lib.hid hEl
  clear hb2 ho2 hEl
  go_wp2_with fail
  go_loopw [6, 31] (fun tv iv wr => ∃ (k : Nat) (x : ByteArray), k ≤ ts.length ∧ iv = .int .i64 (k : Int) ∧ tv = .string x ∧ x.data.toList = (ts.take k).flatMap Lx.rend ∧ Below w2.heap.size w2 wr) (fun _ iv _ => ts.length - (intOf iv).toNat)
  case atStart => exact ⟨0, ⟨#[]⟩, by omega, rfl, rfl, rfl, Below.refl _ _⟩
  case round =>
    obtain ⟨k, x, hk, rfl, rfl, hx, BB⟩ := hrel
    have HBB := Lib.hid BB
    have HXX := Lib.hid hx
    have hxs : x.size ≤ 2001 := by rw [size_data, hx]; have := flat_le ts k; have := HL.out.2; omega
    clear BB hx
    by_cases hlt : k < ts.length
    · obtain ⟨b, o, rfl, en⟩ : ∃ b off, pl = some ⟨b, off, none⟩ ∧ ∀ i, i < ts.length → w2.rangeAt b (off + i * 5) (tk (ts.getD i Lx.tk0)) := by
        rcases HE.out with h | h
        · exact absurd hlt (by rw [h]; simp)
        · exact h
      have X := range_below (en k hlt) HBB.out
      have hst := rend_step x.data.toList ts k hlt HXX.out
      have htl : (ts.getD k Lx.tk0).text.length ≤ 2001 := by
        have h1 := flat_le ts (k + 1)
        rw [← hst, List.length_append] at h1
        have h2 := HL.out.2
        have h3 : (ts.getD k Lx.tk0).text.length ≤ (Lx.rend (ts.getD k Lx.tk0)).length := by unfold Lx.rend; split <;> simp <;> omega
        omega
      obtain ⟨t, ht⟩ : ∃ t, t = ts.getD k Lx.tk0 := ⟨_, rfl⟩
      rw [← ht] at X hst htl
      have HST := Lib.hid hst
      have c0 : wr.cell? ⟨b, o + k * 5, none⟩ = some (.int .i64 (t.kind : Int)) := X 0 _ rfl; have c1 : wr.cell? ⟨b, o + k * 5 + 1, none⟩ = some (.string ⟨t.text.toArray⟩) := X 1 _ rfl; have c2 : wr.cell? ⟨b, o + k * 5 + 2, none⟩ = some (.int .i64 t.num) := X 2 _ rfl; have c3 : wr.cell? ⟨b, o + k * 5 + 3, none⟩ = some (.int .i32 t.day) := X 3 _ rfl; have c4 : wr.cell? ⟨b, o + k * 5 + 4, none⟩ = some (.int .i64 (t.pos : Int)) := X 4 _ rfl
      have i0 : (0 : Int) ≤ (k : Int) := by omega
      have i1 : (k : Int) < (ts.length : Int) := by omega
      have e4 : IntKind.i64.wrap ((k : Int) + 1) = (k : Int) + 1 := by have := HL.out.1; rw [IntKind.wrap_i64]; omega
      have HI := Lib.hid hlt
      by_cases c : t.kind = 4
      · have hq : ((t.kind : Int) == 4) = true := by rw [c]; rfl
        have hre : Lx.rend t = 34 :: (t.text ++ [34, 32]) := by unfold Lx.rend; rw [if_pos c]
        have HRE := Lib.hid hre
        clear en ht hst c hlt hk X hre
        go_wp2_with (first
          | (refine ev_alloc rfl rfl 31 rfl _ zero_tk ?_; intro g1 w5 hg1 R1 B1)
          | (refine ev_store rfl 31 (Operand.tmp 8) _ rfl g1 (tk t).toArray rfl rfl R1 (tk_info _) rfl (tk_one _) rfl ?_; intro w6 R2 S2; have f0 : w6.cell? ⟨g1, 0, none⟩ = some (.int .i64 (t.kind : Int)) := R2.cell 0; have f1 : w6.cell? ⟨g1, 1, none⟩ = some (.string ⟨t.text.toArray⟩) := R2.cell 1))
        exact ⟨⟨k + 1, _, HI.out, by simp, rfl, by rw [← HST.out, HRE.out]; simp, S2.below (below_then HBB.out B1) (Nat.le_trans HBB.out.size hg1)⟩, by have := HI.out; simp [intOf]; omega⟩
      · have hq : ((t.kind : Int) == 4) = false := beq_eq_false_iff_ne.2 (by omega)
        have hre : Lx.rend t = t.text ++ [32] := by unfold Lx.rend; rw [if_neg c]
        have HRE := Lib.hid hre
        clear en ht hst c hlt hk X hre
        go_wp2_with (first
          | (refine ev_alloc rfl rfl 31 rfl _ zero_tk ?_; intro g1 w5 hg1 R1 B1)
          | (refine ev_store rfl 31 (Operand.tmp 8) _ rfl g1 (tk t).toArray rfl rfl R1 (tk_info _) rfl (tk_one _) rfl ?_; intro w6 R2 S2; have f0 : w6.cell? ⟨g1, 0, none⟩ = some (.int .i64 (t.kind : Int)) := R2.cell 0; have f1 : w6.cell? ⟨g1, 1, none⟩ = some (.string ⟨t.text.toArray⟩) := R2.cell 1))
        exact ⟨⟨k + 1, _, HI.out, by simp, rfl, by rw [← HST.out, HRE.out]; simp, S2.below (below_then HBB.out B1) (Nat.le_trans HBB.out.size hg1)⟩, by have := HI.out; simp [intOf]; omega⟩
    · obtain rfl : k = ts.length := by omega
      have i1 : ¬ (ts.length : Int) < (ts.length : Int) := by omega
      have hxx := HXX.out
      rw [List.take_length] at hxx
      have HS2 := Lib.hid (HY.out x hxx)
      have hbare := fun i hi => tk_getD_bare ts us HBR.out i hi
      have hul : us.length = ts.length := by have := congrArg List.length HBR.out; simpa using this
      have HBA := Lib.hid hbare
      have HUL := Lib.hid hul
      have nq : ((us.length : Int) != (ts.length : Int)) = false := by rw [bne_eq_false_iff_eq, hul]
      clear hbare hul hxx hlt hk hxs
      go_wp2_with fail
      refine (HS2.out wr (HM.out.below (below_then HB2.out HBB.out))).mono ?_
      rintro _ w4 ⟨⟨r, rfl, v4, rfl, ho4⟩, hb4⟩
      obtain ⟨_, pm, cm, rfl, hEm⟩ := els_own ho4
      have HE4 := Lib.hid (And.intro (HE.out.below (below_then HBB.out hb4)) hEm)
      have HB4 := Lib.hid (below_then (below_then HB2.out HBB.out) hb4)
      clear hb4 ho4 hEm
      go_wp2_with fail
      clear nq
      go_loopw [67] (fun iv wr' => ∃ i : Nat, i ≤ ts.length ∧ iv = .int .i64 (i : Int) ∧ Below w4.heap.size w4 wr') (fun iv _ => ts.length - (intOf iv).toNat)
      case atStart => exact ⟨0, by omega, rfl, Below.refl _ _⟩
      case round =>
        obtain ⟨i, hi, rfl, BB5⟩ := hrel
        have HBB5 := Lib.hid BB5
        clear BB5
        by_cases hlt : i < ts.length
        · obtain ⟨b1, o1, rfl, el⟩ : ∃ b off, pl = some ⟨b, off, none⟩ ∧ ∀ i, i < ts.length → w4.rangeAt b (off + i * 5) (tk (ts.getD i Lx.tk0)) := by
            rcases HE4.out.1 with h | h
            · exact absurd hlt (by rw [h]; simp)
            · exact h
          obtain ⟨b2, o2, rfl, em⟩ : ∃ b off, pm = some ⟨b, off, none⟩ ∧ ∀ i, i < us.length → w4.rangeAt b (off + i * 5) (tk (us.getD i Lx.tk0)) := by
            rcases HE4.out.2 with h | h
            · exact absurd hlt (by rw [← HUL.out, h]; simp)
            · exact h
          obtain ⟨_, a1, a2, a3, a4⟩ := HBA.out i hlt
          have X1 := range_below (el i hlt) HBB5.out
          have X2 := range_below (em i (by rw [HUL.out]; exact hlt)) HBB5.out
          obtain ⟨t, ht⟩ : ∃ t, t = ts.getD i Lx.tk0 := ⟨_, rfl⟩
          obtain ⟨u, hu⟩ : ∃ u, u = us.getD i Lx.tk0 := ⟨_, rfl⟩
          rw [← ht] at X1 a1 a2 a3 a4
          rw [← hu] at X2 a1 a2 a3 a4
          obtain ⟨k1, x1, n1, d1, p1⟩ := t
          obtain ⟨k2, x2, n2, d2, p2⟩ := u
          dsimp only at a1 a2 a3 a4
          subst a1 a2 a3 a4
          clear ht hu
          have c0 : ∀ n : QW (fun w' => Below wr.heap.size wr w'), n.w.cell? ⟨b1, o1 + i * 5, none⟩ = some (.int .i64 (k2 : Int)) := fun n => range_below X1 n.h 0 _ rfl
          have c1 : ∀ n : QW (fun w' => Below wr.heap.size wr w'), n.w.cell? ⟨b1, o1 + i * 5 + 1, none⟩ = some (.string ⟨x2.toArray⟩) := fun n => range_below X1 n.h 1 _ rfl
          have c2 : ∀ n : QW (fun w' => Below wr.heap.size wr w'), n.w.cell? ⟨b1, o1 + i * 5 + 2, none⟩ = some (.int .i64 n2) := fun n => range_below X1 n.h 2 _ rfl
          have c3 : ∀ n : QW (fun w' => Below wr.heap.size wr w'), n.w.cell? ⟨b1, o1 + i * 5 + 3, none⟩ = some (.int .i32 d2) := fun n => range_below X1 n.h 3 _ rfl
          have f0 : ∀ n : QW (fun w' => Below wr.heap.size wr w'), n.w.cell? ⟨b2, o2 + i * 5, none⟩ = some (.int .i64 (k2 : Int)) := fun n => range_below X2 n.h 0 _ rfl
          have f1 : ∀ n : QW (fun w' => Below wr.heap.size wr w'), n.w.cell? ⟨b2, o2 + i * 5 + 1, none⟩ = some (.string ⟨x2.toArray⟩) := fun n => range_below X2 n.h 1 _ rfl
          have f2 : ∀ n : QW (fun w' => Below wr.heap.size wr w'), n.w.cell? ⟨b2, o2 + i * 5 + 2, none⟩ = some (.int .i64 n2) := fun n => range_below X2 n.h 2 _ rfl
          have f3 : ∀ n : QW (fun w' => Below wr.heap.size wr w'), n.w.cell? ⟨b2, o2 + i * 5 + 3, none⟩ = some (.int .i32 d2) := fun n => range_below X2 n.h 3 _ rfl
          have i0 : (0 : Int) ≤ (i : Int) := by omega
          have i1 : (i : Int) < (ts.length : Int) := by omega
          have i2 : (i : Int) < (us.length : Int) := by rw [HUL.out]; exact i1
          have e4 : IntKind.i64.wrap ((i : Int) + 1) = (i : Int) + 1 := by have := HL.out.1; rw [IntKind.wrap_i64]; omega
          have HI := Lib.hid hlt
          clear el em X1 X2 hlt hi
          go_wp2_with fail
          refine region_quietS (fun w' => Below wr.heap.size wr w') (by kernel_rfl) (by kernel_rfl) (below_dr (Below.refl _ _)) (fun hne => ?_)
          repeat (go_big_quiet_step (fail))
          refine wpQuiet_nil ?_
          intro _ hw'
          obtain ⟨⟨wy, S⟩, rfl⟩ := hw'
          clear c0 c1 c2 c3 f0 f1 f2 f3
          go_wp2_with fail
          exact ⟨⟨i + 1, HI.out, by simp, below_then HBB5.out S⟩, by have := HI.out; simp [intOf]; omega⟩
        · obtain rfl : i = ts.length := by omega
          have i1 : ¬ (ts.length : Int) < (ts.length : Int) := by omega
          go_wp2_with fail
          exact bodyPost_ret (v := .bool true) (by simp [results, Tryz.results6, go_sem]) rfl ⟨rfl, below_then HB4.out HBB5.out⟩
set_option maxHeartbeats 2000000 in
theorem lexAgain_law (s : ByteArray) (hs : s.size ≤ 140737488351232) (w : World) (hM : Glb5 w) :
    Calls Tryz.prog 6 #[.string s] w fun e w' => e = .returned (.bool true) ∧ Below w.heap.size w w' := by
  have HM := Lib.hid hM
  have HA := Lib.hid (awake12 w hM)
  by_cases h : 1000 < s.size
  · have q : (1000 : Int) < (s.size : Int) := by omega
    clear hM h
    go_enter Tryz.func6, Tryz.ntmps6
    go_wp2_with fail
    refine HA.out.mono ?_
    rintro _ w1 ⟨rfl, hb⟩
    go_wp2_with fail
    exact bodyPost_ret (v := .bool true) (by simp [results, Tryz.results6, go_sem]) rfl ⟨rfl, hb⟩
  · have q : ¬ (1000 : Int) < (s.size : Int) := by omega
    obtain ⟨l, hl⟩ : ∃ l, l = s.data.toList := ⟨_, rfl⟩
    have hsz : s.size = l.length := by rw [hl]; exact size_data s
    have HX : Hid (okS s (Lx.split Dy.parse l 0)) := Lib.hid fun W hW => splitL_any s l hl (by omega) W hW
    rcases hr : Lx.split Dy.parse l 0 with ⟨p, e⟩ | ts
    · have hne := split_err0 l 0 _ _ hr
      have n0 : ((e : Int) != 0) = true := bne_iff_ne.2 (by omega)
      rw [hr] at HX
      clear hM h hl hsz hr hne
      go_enter Tryz.func6, Tryz.ntmps6
      go_wp2_with fail
      refine HA.out.mono ?_
      rintro _ w1 ⟨rfl, hb1⟩
      have HB1 := Lib.hid hb1
      clear hb1
      go_wp2_with fail
      refine (HX.out w1 (HM.out.below HB1.out)).mono ?_
      rintro _ w2 ⟨⟨r, rfl, rfl⟩, hb2⟩
      have HB2 := Lib.hid (below_then HB1.out hb2)
      clear hb2
      go_wp2_with fail
      exact bodyPost_ret (v := .bool true) (by simp [results, Tryz.results6, go_sem]) rfl ⟨rfl, HB2.out⟩
    · rw [hr] at HX
      obtain ⟨us, h1, h2, h3, h4⟩ := Lx.split_again Dy.parse l 0 ts hr 0
      exact lexAgain_ok s w HA.out hM q ts us (by omega) (by omega) h2 HX.out fun y hy W hW => by
        have := splitL_any y (ts.flatMap Lx.rend) hy.symm (by omega) W hW
        rwa [h1] at this
end Go.Proofs.YtbnhodpbamijkaaGreatDoor
