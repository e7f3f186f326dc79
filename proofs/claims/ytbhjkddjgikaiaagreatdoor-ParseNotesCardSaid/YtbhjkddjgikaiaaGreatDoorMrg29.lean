/-
  Own texts, several in one (Same13, Same13b, Same13c).
-/
import Derived.Test.YtbhjkddjgikaiaaGreatDoorMrg15
import Derived.Test.YtbhjkddjgikaiaaGreatDoorMrg27
namespace Go.Proofs.YtbhjkddjgikaiaaGreatDoor
open Go.RowKit
set_option linter.unusedVariables false
set_option linter.unusedSimpArgs false

set_option maxHeartbeats 2000000 in
set_option maxRecDepth 100000 in
theorem equal_days (p1 p2 : Option Addr) (c1 c2 : Nat) (l m : List (Int)) (w : World) (h1 : (l = [] ∨ ∃ b off, p1 = some ⟨b, off, none⟩ ∧ ∀ i, i < l.length → w.cell? ⟨b, off + i, none⟩ = some (.int .i32 (l.getD i 0)))) (h2 : (m = [] ∨ ∃ b off, p2 = some ⟨b, off, none⟩ ∧ ∀ i, i < m.length → w.cell? ⟨b, off + i, none⟩ = some (.int .i32 (m.getD i 0)))) (hl : l.length ≤ 1000000) :
    Calls Tryz.prog 61 #[.slice p1 l.length c1, .slice p2 m.length c2] w fun e w' => e = .returned (.bool (decide (l = m))) ∧ Below w.heap.size w w' := by
  have H1 := Lib.hid h1
  have H2 := Lib.hid h2
  have HL := Lib.hid hl
  clear h1 h2 hl
  by_cases hlm : l.length = m.length
  · have HLM := Lib.hid hlm
    have j0 : (m.length : Int) = (l.length : Int) := by omega
    rw [← hlm]
    clear j0 hlm
    go_enter Tryz.func61, Tryz.ntmps61
    go_wp2_with fail
    go_loopw [13] (fun i wr => ∃ k : Nat, k ≤ l.length ∧ i = .int .i64 k ∧ l.take k = m.take k ∧ Below w.heap.size w wr) (fun i _ => l.length - (intOf i).toNat)
    case atStart => exact ⟨0, by omega, rfl, rfl, Below.refl _ _⟩
    case round =>
    obtain ⟨k, hk, rfl, htk, BB⟩ := hrel
    have HBB := Lib.hid BB
    have HTK := Lib.hid htk
    have hlm := HLM.out
    clear BB htk
    by_cases hlt : k < l.length
    · have hk1 : (0 : Int) ≤ (k : Int) := by omega
      have hk2 : (k : Int) < (l.length : Int) := by omega
      obtain ⟨b1, o1, rfl, e1⟩ : ∃ b off, p1 = some ⟨b, off, none⟩ ∧ ∀ i, i < l.length → w.cell? ⟨b, off + i, none⟩ = some (.int .i32 (l.getD i 0)) := by
        rcases H1.out with h | h
        · exact absurd hlt (by rw [h]; simp)
        · exact h
      obtain ⟨b2, o2, rfl, e2⟩ : ∃ b off, p2 = some ⟨b, off, none⟩ ∧ ∀ i, i < m.length → w.cell? ⟨b, off + i, none⟩ = some (.int .i32 (m.getD i 0)) := by
        rcases H2.out with h | h
        · exact absurd hlt (by rw [hlm, h]; simp)
        · exact h
      obtain ⟨x, hx⟩ : ∃ x, x = l.getD k 0 := ⟨_, rfl⟩
      obtain ⟨y, hy⟩ : ∃ y, y = m.getD k 0 := ⟨_, rfl⟩
      have e1k := e1 k hlt
      have e2k := e2 k (by omega)
      rw [← hx] at e1k
      rw [← hy] at e2k
      have d0 : ∀ n : QW (fun w' => Below wr.heap.size wr w'), n.w.cell? ⟨b1, o1 + k, none⟩ = some (.int .i32 x) := fun n => cell_then e1k (below_then HBB.out n.h)
      have f0 : ∀ n : QW (fun w' => Below wr.heap.size wr w'), n.w.cell? ⟨b2, o2 + k, none⟩ = some (.int .i32 y) := fun n => cell_then e2k (below_then HBB.out n.h)
      have hstep : l.take (k + 1) = l.take k ++ [x] ∧ m.take (k + 1) = m.take k ++ [y] := by
        rw [hx, hy, List.getD_eq_getElem?_getD, List.getD_eq_getElem?_getD, List.getElem?_eq_getElem hlt, List.getElem?_eq_getElem (show k < m.length by omega), List.take_succ_eq_append_getElem hlt, List.take_succ_eq_append_getElem (show k < m.length by omega)]
        exact ⟨rfl, rfl⟩
      have HST := Lib.hid hstep
      have HLT := Lib.hid hlt
      clear e1 e2 e1k e2k hstep hx hy hlm
      by_cases hxy : x = y
      · subst hxy
        go_wp2_with fail
        refine region_quietS (fun w' => Below wr.heap.size wr w') (by kernel_rfl) (by kernel_rfl) (below_dr (Below.refl _ _)) (fun hne => ?_)
        repeat (go_big_quiet_step (fail))
        refine wpQuiet_nil ?_
        intro _ hw'
        obtain ⟨⟨wy, S⟩, rfl⟩ := hw'
        clear d0 f0
        have ev : IntKind.i64.wrap ((k : Int) + 1) = ((k + 1 : Nat) : Int) := by have := HL.out; rw [IntKind.wrap_i64]; omega
        go_wp2_with fail
        exact ⟨⟨k + 1, by have := HLT.out; omega, rfl, by rw [HST.out.1, HST.out.2, HTK.out], below_then HBB.out S⟩, by have := HLT.out; simp [intOf]; omega⟩
      · have hf : decide (l = m) = false := decide_eq_false (fun e => hxy (by
          have h1 := HST.out.1
          have h2 := HST.out.2
          rw [← e, h1] at h2
          simpa using h2))
        have hne2 : (decide (x = y)) = false := decide_eq_false hxy
        have hne3 : (x != y) = true := by simp [hxy]
        go_wp2_with fail
        refine region_quietS (fun w' => Below wr.heap.size wr w') (by kernel_rfl) (by kernel_rfl) (below_dr (Below.refl _ _)) (fun hne => ?_)
        repeat (go_big_quiet_step (fail))
        refine wpQuiet_nil ?_
        intro _ hw'
        obtain ⟨⟨wy, S⟩, rfl⟩ := hw'
        clear d0 f0
        go_wp2_with fail
        go_ret
        exact ⟨congrArg (fun b => Ending.returned (Value.bool b)) hf.symm, below_then HBB.out S⟩
    · obtain rfl : k = l.length := by omega
      have hk0 : ¬ ((l.length : Int) < (l.length : Int)) := by omega
      have ht : decide (l = m) = true := decide_eq_true (by have := HTK.out; rw [List.take_length, hlm, List.take_length] at this; exact this)
      clear hlm
      go_wp2
      go_ret
      first | exact ⟨rfl, HBB.out⟩ | exact ⟨congrArg (fun b => Ending.returned (Value.bool b)) ht.symm, HBB.out⟩
  · have hf : decide (l = m) = false := decide_eq_false (fun e => hlm (by rw [e]))
    rw [hf]
    have j1 : ¬ (l.length : Int) = (m.length : Int) := by omega
    go_enter Tryz.func61, Tryz.ntmps61
    go_wp2_with fail
    go_ret
    exact ⟨rfl, Below.refl _ _⟩
set_option maxHeartbeats 2000000 in
set_option maxRecDepth 100000 in
theorem equal_parts (p1 p2 : Option Addr) (c1 c2 : Nat) (l m : List (Nat × Nat)) (w : World) (h1 : (l = [] ∨ ∃ b off, p1 = some ⟨b, off, none⟩ ∧ ∀ i, i < l.length → w.rangeAt b (off + i * 2) (ptv (l.getD i (0, 0))))) (h2 : (m = [] ∨ ∃ b off, p2 = some ⟨b, off, none⟩ ∧ ∀ i, i < m.length → w.rangeAt b (off + i * 2) (ptv (m.getD i (0, 0))))) (hl : l.length ≤ 1000000) :
    Calls Tryz.prog 60 #[.slice p1 l.length c1, .slice p2 m.length c2] w fun e w' => e = .returned (.bool (decide (l = m))) ∧ Below w.heap.size w w' := by
  have H1 := Lib.hid h1
  have H2 := Lib.hid h2
  have HL := Lib.hid hl
  clear h1 h2 hl
  by_cases hlm : l.length = m.length
  · have HLM := Lib.hid hlm
    have j0 : (m.length : Int) = (l.length : Int) := by omega
    rw [← hlm]
    clear j0 hlm
    go_enter Tryz.func60, Tryz.ntmps60
    go_wp2_with fail
    go_loopw [13] (fun i wr => ∃ k : Nat, k ≤ l.length ∧ i = .int .i64 k ∧ l.take k = m.take k ∧ Below w.heap.size w wr) (fun i _ => l.length - (intOf i).toNat)
    case atStart => exact ⟨0, by omega, rfl, rfl, Below.refl _ _⟩
    case round =>
    obtain ⟨k, hk, rfl, htk, BB⟩ := hrel
    have HBB := Lib.hid BB
    have HTK := Lib.hid htk
    have hlm := HLM.out
    clear BB htk
    by_cases hlt : k < l.length
    · have hk1 : (0 : Int) ≤ (k : Int) := by omega
      have hk2 : (k : Int) < (l.length : Int) := by omega
      obtain ⟨b1, o1, rfl, e1⟩ : ∃ b off, p1 = some ⟨b, off, none⟩ ∧ ∀ i, i < l.length → w.rangeAt b (off + i * 2) (ptv (l.getD i (0, 0))) := by
        rcases H1.out with h | h
        · exact absurd hlt (by rw [h]; simp)
        · exact h
      obtain ⟨b2, o2, rfl, e2⟩ : ∃ b off, p2 = some ⟨b, off, none⟩ ∧ ∀ i, i < m.length → w.rangeAt b (off + i * 2) (ptv (m.getD i (0, 0))) := by
        rcases H2.out with h | h
        · exact absurd hlt (by rw [hlm, h]; simp)
        · exact h
      obtain ⟨x, hx⟩ : ∃ x, x = l.getD k (0, 0) := ⟨_, rfl⟩
      obtain ⟨y, hy⟩ : ∃ y, y = m.getD k (0, 0) := ⟨_, rfl⟩
      have e1k := e1 k hlt
      have e2k := e2 k (by omega)
      rw [← hx] at e1k
      rw [← hy] at e2k
      have d0 : ∀ n : QW (fun w' => Below wr.heap.size wr w'), n.w.cell? ⟨b1, o1 + k * 2, none⟩ = some (.int .u32 (x.1 : Int)) := fun n => range_below (range_below e1k HBB.out) n.h 0 _ rfl
      have d1 : ∀ n : QW (fun w' => Below wr.heap.size wr w'), n.w.cell? ⟨b1, o1 + k * 2 + 1, none⟩ = some (.int .i64 (x.2 : Int)) := fun n => range_below (range_below e1k HBB.out) n.h 1 _ rfl
      have f0 : ∀ n : QW (fun w' => Below wr.heap.size wr w'), n.w.cell? ⟨b2, o2 + k * 2, none⟩ = some (.int .u32 (y.1 : Int)) := fun n => range_below (range_below e2k HBB.out) n.h 0 _ rfl
      have f1 : ∀ n : QW (fun w' => Below wr.heap.size wr w'), n.w.cell? ⟨b2, o2 + k * 2 + 1, none⟩ = some (.int .i64 (y.2 : Int)) := fun n => range_below (range_below e2k HBB.out) n.h 1 _ rfl
      have hstep : l.take (k + 1) = l.take k ++ [x] ∧ m.take (k + 1) = m.take k ++ [y] := by
        rw [hx, hy, List.getD_eq_getElem?_getD, List.getD_eq_getElem?_getD, List.getElem?_eq_getElem hlt, List.getElem?_eq_getElem (show k < m.length by omega), List.take_succ_eq_append_getElem hlt, List.take_succ_eq_append_getElem (show k < m.length by omega)]
        exact ⟨rfl, rfl⟩
      have HST := Lib.hid hstep
      have HLT := Lib.hid hlt
      clear e1 e2 e1k e2k hstep hx hy hlm
      by_cases hxy : x = y
      · subst hxy
        go_wp2_with fail
        refine region_quietS (fun w' => Below wr.heap.size wr w') (by kernel_rfl) (by kernel_rfl) (below_dr (Below.refl _ _)) (fun hne => ?_)
        repeat (go_big_quiet_step (fail))
        refine wpQuiet_nil ?_
        intro _ hw'
        obtain ⟨⟨wy, S⟩, rfl⟩ := hw'
        clear d0 f0 d1 f1
        have ev : IntKind.i64.wrap ((k : Int) + 1) = ((k + 1 : Nat) : Int) := by have := HL.out; rw [IntKind.wrap_i64]; omega
        go_wp2_with fail
        exact ⟨⟨k + 1, by have := HLT.out; omega, rfl, by rw [HST.out.1, HST.out.2, HTK.out], below_then HBB.out S⟩, by have := HLT.out; simp [intOf]; omega⟩
      · have hf : decide (l = m) = false := decide_eq_false (fun e => hxy (by
          have h1 := HST.out.1
          have h2 := HST.out.2
          rw [← e, h1] at h2
          simpa using h2))
        by_cases n1 : x.1 = y.1
        · have n2 : ¬ x.2 = y.2 := fun e => hxy (Prod.ext n1 e)
          have n3 : ¬ (x.2 : Int) = (y.2 : Int) := by omega
          have n4 : (x.1 : Int) = (y.1 : Int) := by omega
          rw [n1] at d0
          go_wp2_with fail
          refine region_quietS (fun w' => Below wr.heap.size wr w') (by kernel_rfl) (by kernel_rfl) (below_dr (Below.refl _ _)) (fun hne => ?_)
          repeat (go_big_quiet_step (fail))
          refine wpQuiet_nil ?_
          intro _ hw'
          obtain ⟨⟨wy, S⟩, rfl⟩ := hw'
          clear d0 f0 d1 f1
          go_wp2_with fail
          go_ret
          exact ⟨congrArg (fun b => Ending.returned (Value.bool b)) hf.symm, below_then HBB.out S⟩
        · have n3 : ¬ (x.1 : Int) = (y.1 : Int) := by omega
          go_wp2_with fail
          refine region_quietS (fun w' => Below wr.heap.size wr w') (by kernel_rfl) (by kernel_rfl) (below_dr (Below.refl _ _)) (fun hne => ?_)
          repeat (go_big_quiet_step (fail))
          refine wpQuiet_nil ?_
          intro _ hw'
          obtain ⟨⟨wy, S⟩, rfl⟩ := hw'
          clear d0 f0 d1 f1
          go_wp2_with fail
          go_ret
          exact ⟨congrArg (fun b => Ending.returned (Value.bool b)) hf.symm, below_then HBB.out S⟩
    · obtain rfl : k = l.length := by omega
      have hk0 : ¬ ((l.length : Int) < (l.length : Int)) := by omega
      have ht : decide (l = m) = true := decide_eq_true (by have := HTK.out; rw [List.take_length, hlm, List.take_length] at this; exact this)
      clear hlm
      go_wp2
      go_ret
      first | exact ⟨rfl, HBB.out⟩ | exact ⟨congrArg (fun b => Ending.returned (Value.bool b)) ht.symm, HBB.out⟩
  · have hf : decide (l = m) = false := decide_eq_false (fun e => hlm (by rw [e]))
    rw [hf]
    have j1 : ¬ (l.length : Int) = (m.length : Int) := by omega
    go_enter Tryz.func60, Tryz.ntmps60
    go_wp2_with fail
    go_ret
    exact ⟨rfl, Below.refl _ _⟩
end Go.Proofs.YtbhjkddjgikaiaaGreatDoor

namespace Go.Proofs.YtbhjkddjgikaiaaGreatDoor
open Go.RowKit
set_option linter.unusedVariables false
set_option linter.unusedSimpArgs false

set_option maxHeartbeats 2000000 in
set_option maxRecDepth 100000 in
theorem csame_any (v1 v2 : Value) (l m : List Int) (f g : Int) (w : World) (h1 : NsAt .i32 w v1 l) (h2 : NsAt .i32 w v2 m) (hl : l.length ≤ 1000000) :
    Calls Tryz.prog 34 #[.agg #[v1, .int .i32 f], .agg #[v2, .int .i32 g]] w fun e w' => e = .returned (.bool (decide (f = g) && decide (l = m))) ∧ Below w.heap.size w w' := by
  obtain ⟨p1, k1, rfl, h1⟩ := h1
  obtain ⟨p2, k2, rfl, h2⟩ := h2
  have RA := (Row.new w #[.slice p1 l.length k1, .int .i32 f] 46).alloc (.cells #[.slice p2 m.length k2, .int .i32 g] 46)
  have RB := Row.new (w.alloc (.cells #[.slice p1 l.length k1, .int .i32 f] 46)) #[.slice p2 m.length k2, .int .i32 g] 46
  have hsz : (w.alloc (.cells #[.slice p1 l.length k1, .int .i32 f] 46)).heap.size = w.heap.size + 1 := by simp
  rw [hsz] at RB
  have BB := below_alloc (below_alloc (Below.refl _ w) (.cells #[.slice p1 l.length k1, .int .i32 f] 46)) (.cells #[.slice p2 m.length k2, .int .i32 g] 46)
  have hc : Calls Tryz.prog 61 #[.slice p1 l.length k1, .slice p2 m.length k2] ((w.alloc (.cells #[.slice p1 l.length k1, .int .i32 f] 46)).alloc (.cells #[.slice p2 m.length k2, .int .i32 g] 46)) _ := equal_days p1 p2 k1 k2 l m _ (by
    rcases h1 with h | ⟨b, off, e, h⟩
    · exact .inl h
    · exact .inr ⟨b, off, e, fun i hi => cell_then (h i hi) BB⟩) (by
    rcases h2 with h | ⟨b, off, e, h⟩
    · exact .inl h
    · exact .inr ⟨b, off, e, fun i hi => cell_then (h i hi) BB⟩) hl
  have HC := Lib.hid hc
  have HB := Lib.hid BB
  have a0 := RA.cell 0
  have a1 := RA.cell 1
  have b0 := RB.cell 0
  have b1 := RB.cell 1
  simp at a0 a1 b0 b1
  clear RA RB BB hc h1 h2 hsz
  by_cases hfg : f = g
  · subst hfg
    go_enter Tryz.func34, Tryz.ntmps34
    go_wp2_with fail
    refine HC.out.mono ?_
    rintro _ w2 ⟨rfl, hb⟩
    go_wp2_with fail
    go_ret
    exact ⟨by simp, below_then HB.out hb⟩
  · have hd : decide (f = g) = false := decide_eq_false hfg
    go_enter Tryz.func34, Tryz.ntmps34
    go_wp2_with fail
    go_ret
    exact ⟨by simp [hfg], HB.out⟩
end Go.Proofs.YtbhjkddjgikaiaaGreatDoor

namespace Go.Proofs.YtbhjkddjgikaiaaGreatDoor
open Go.RowKit
set_option linter.unusedVariables false
set_option linter.unusedSimpArgs false
/-- alike, but for where they stand -/
def Sc.sameB (o p : Sc.Op) : Bool := decide (o.kind = p.kind) && (decide (o.fr = p.fr) && (decide (o.too = p.too) && (decide (o.name = p.name) && (decide (o.parts = p.parts) && (decide (o.fin = p.fin) && decide (o.starts = p.starts))))))
theorem Sc.sameB_iff (o p : Sc.Op) : Sc.sameB o p = true ↔ o.bare = p.bare := by
  obtain ⟨k1, f1, t1, n1, s1, r1, z1, o1⟩ := o
  obtain ⟨k2, f2, t2, n2, s2, r2, z2, o2⟩ := p
  simp [Sc.sameB, Sc.Op.bare]
  intros
  exact and_comm
set_option maxHeartbeats 8000000 in
set_option maxRecDepth 100000 in
theorem same_any (a b : Sc.Op) (v1 u1 v2 u2 : Value) (w : World) (hP1 : PtsAt w v1 a.parts) (hN1 : NsAt .i32 w u1 a.starts) (hP2 : PtsAt w v2 b.parts) (hN2 : NsAt .i32 w u2 b.starts) (hl : a.parts.length ≤ 1000000 ∧ a.starts.length ≤ 1000000) :
    Calls Tryz.prog 75 #[.agg (opc a v1 u1).toArray, .agg (opc b v2 u2).toArray] w fun e w' => e = .returned (.bool (Sc.sameB a b)) ∧ Below w.heap.size w w' := by
  obtain ⟨k1, f1, t1, n1, s1, r1, z1, o1⟩ := a
  obtain ⟨k2, f2, t2, n2, s2, r2, z2, o2⟩ := b
  obtain ⟨p1, c1, rfl, hP1⟩ := hP1
  obtain ⟨p2, c2, rfl, hP2⟩ := hP2
  obtain ⟨q1, e1, rfl, hN1⟩ := hN1
  obtain ⟨q2, e2, rfl, hN2⟩ := hN2
  have HN1 : Hid (NsAt .i32 w (.slice q1 r1.length e1) r1) := Lib.hid ⟨q1, e1, rfl, hN1⟩
  have HN2 : Hid (NsAt .i32 w (.slice q2 r2.length e2) r2) := Lib.hid ⟨q2, e2, rfl, hN2⟩
  have RA := (Row.new w #[.int .i64 (k1 : Int), .int .u32 (f1 : Int), .int .u32 (t1 : Int), .string ⟨n1.toArray⟩, .slice p1 s1.length c1, .slice q1 r1.length e1, .int .i32 z1, .int .i64 (o1 : Int)] 48).alloc (.cells #[.int .i64 (k2 : Int), .int .u32 (f2 : Int), .int .u32 (t2 : Int), .string ⟨n2.toArray⟩, .slice p2 s2.length c2, .slice q2 r2.length e2, .int .i32 z2, .int .i64 (o2 : Int)] 48)
  have RB := Row.new (w.alloc (.cells #[.int .i64 (k1 : Int), .int .u32 (f1 : Int), .int .u32 (t1 : Int), .string ⟨n1.toArray⟩, .slice p1 s1.length c1, .slice q1 r1.length e1, .int .i32 z1, .int .i64 (o1 : Int)] 48)) #[.int .i64 (k2 : Int), .int .u32 (f2 : Int), .int .u32 (t2 : Int), .string ⟨n2.toArray⟩, .slice p2 s2.length c2, .slice q2 r2.length e2, .int .i32 z2, .int .i64 (o2 : Int)] 48
  have hsz : (w.alloc (.cells #[.int .i64 (k1 : Int), .int .u32 (f1 : Int), .int .u32 (t1 : Int), .string ⟨n1.toArray⟩, .slice p1 s1.length c1, .slice q1 r1.length e1, .int .i32 z1, .int .i64 (o1 : Int)] 48)).heap.size = w.heap.size + 1 := by simp
  rw [hsz] at RB
  have BB := below_alloc (below_alloc (Below.refl _ w) (.cells #[.int .i64 (k1 : Int), .int .u32 (f1 : Int), .int .u32 (t1 : Int), .string ⟨n1.toArray⟩, .slice p1 s1.length c1, .slice q1 r1.length e1, .int .i32 z1, .int .i64 (o1 : Int)] 48)) (.cells #[.int .i64 (k2 : Int), .int .u32 (f2 : Int), .int .u32 (t2 : Int), .string ⟨n2.toArray⟩, .slice p2 s2.length c2, .slice q2 r2.length e2, .int .i32 z2, .int .i64 (o2 : Int)] 48)
  have HB : Hid (Below w.heap.size w ((w.alloc (.cells #[.int .i64 (k1 : Int), .int .u32 (f1 : Int), .int .u32 (t1 : Int), .string ⟨n1.toArray⟩, .slice p1 s1.length c1, .slice q1 r1.length e1, .int .i32 z1, .int .i64 (o1 : Int)] 48)).alloc (.cells #[.int .i64 (k2 : Int), .int .u32 (f2 : Int), .int .u32 (t2 : Int), .string ⟨n2.toArray⟩, .slice p2 s2.length c2, .slice q2 r2.length e2, .int .i32 z2, .int .i64 (o2 : Int)] 48))) := Lib.hid BB
  have HP := Lib.hid (equal_parts p1 p2 c1 c2 s1 s2 ((w.alloc (.cells #[.int .i64 (k1 : Int), .int .u32 (f1 : Int), .int .u32 (t1 : Int), .string ⟨n1.toArray⟩, .slice p1 s1.length c1, .slice q1 r1.length e1, .int .i32 z1, .int .i64 (o1 : Int)] 48)).alloc (.cells #[.int .i64 (k2 : Int), .int .u32 (f2 : Int), .int .u32 (t2 : Int), .string ⟨n2.toArray⟩, .slice p2 s2.length c2, .slice q2 r2.length e2, .int .i32 z2, .int .i64 (o2 : Int)] 48)) (ElsAt.below hP1 BB) (ElsAt.below hP2 BB) hl.1)
  have HL := Lib.hid hl
  have a0 := RA.cell 0
  have b0 := RB.cell 0
  have a1 := RA.cell 1
  have b1 := RB.cell 1
  have a2 := RA.cell 2
  have b2 := RB.cell 2
  have a3 := RA.cell 3
  have b3 := RB.cell 3
  have a4 := RA.cell 4
  have b4 := RB.cell 4
  have a5 := RA.cell 5
  have b5 := RB.cell 5
  have a6 := RA.cell 6
  have b6 := RB.cell 6
  have HA5 : Hid (((w.alloc (.cells #[.int .i64 (k1 : Int), .int .u32 (f1 : Int), .int .u32 (t1 : Int), .string ⟨n1.toArray⟩, .slice p1 s1.length c1, .slice q1 r1.length e1, .int .i32 z1, .int .i64 (o1 : Int)] 48)).alloc (.cells #[.int .i64 (k2 : Int), .int .u32 (f2 : Int), .int .u32 (t2 : Int), .string ⟨n2.toArray⟩, .slice p2 s2.length c2, .slice q2 r2.length e2, .int .i32 z2, .int .i64 (o2 : Int)] 48)).cell? ⟨w.heap.size, 5, none⟩ = some (.slice q1 r1.length e1)) := Lib.hid (RA.cell 5)
  have HA6 : Hid (((w.alloc (.cells #[.int .i64 (k1 : Int), .int .u32 (f1 : Int), .int .u32 (t1 : Int), .string ⟨n1.toArray⟩, .slice p1 s1.length c1, .slice q1 r1.length e1, .int .i32 z1, .int .i64 (o1 : Int)] 48)).alloc (.cells #[.int .i64 (k2 : Int), .int .u32 (f2 : Int), .int .u32 (t2 : Int), .string ⟨n2.toArray⟩, .slice p2 s2.length c2, .slice q2 r2.length e2, .int .i32 z2, .int .i64 (o2 : Int)] 48)).cell? ⟨w.heap.size, 6, none⟩ = some (.int .i32 z1)) := Lib.hid (RA.cell 6)
  have HB5 : Hid (((w.alloc (.cells #[.int .i64 (k1 : Int), .int .u32 (f1 : Int), .int .u32 (t1 : Int), .string ⟨n1.toArray⟩, .slice p1 s1.length c1, .slice q1 r1.length e1, .int .i32 z1, .int .i64 (o1 : Int)] 48)).alloc (.cells #[.int .i64 (k2 : Int), .int .u32 (f2 : Int), .int .u32 (t2 : Int), .string ⟨n2.toArray⟩, .slice p2 s2.length c2, .slice q2 r2.length e2, .int .i32 z2, .int .i64 (o2 : Int)] 48)).cell? ⟨w.heap.size + 1, 5, none⟩ = some (.slice q2 r2.length e2)) := Lib.hid (RB.cell 5)
  have HB6 : Hid (((w.alloc (.cells #[.int .i64 (k1 : Int), .int .u32 (f1 : Int), .int .u32 (t1 : Int), .string ⟨n1.toArray⟩, .slice p1 s1.length c1, .slice q1 r1.length e1, .int .i32 z1, .int .i64 (o1 : Int)] 48)).alloc (.cells #[.int .i64 (k2 : Int), .int .u32 (f2 : Int), .int .u32 (t2 : Int), .string ⟨n2.toArray⟩, .slice p2 s2.length c2, .slice q2 r2.length e2, .int .i32 z2, .int .i64 (o2 : Int)] 48)).cell? ⟨w.heap.size + 1, 6, none⟩ = some (.int .i32 z2)) := Lib.hid (RB.cell 6)
  simp at a0 b0 a1 b1 a2 b2 a3 b3 a4 b4 a5 b5 a6 b6
  unfold opc
  clear RA RB BB hsz hP1 hP2 hN1 hN2 hl
  by_cases hh : k1 = k2
  · subst hh
    by_cases hh : f1 = f2
    · subst hh
      by_cases hh : t1 = t2
      · subst hh
        by_cases hh : n1 = n2
        · subst hh
          go_enter Tryz.func75, Tryz.ntmps75
          go_wp2_with fail
          refine HP.out.mono ?_
          rintro _ w2 ⟨rfl, hb⟩
          by_cases hp : s1 = s2
          · subst hp
            have hpd : decide (s1 = s1) = true := by simp
            have x5 := cell_then HA5.out hb
            have x6 := cell_then HA6.out hb
            have y5 := cell_then HB5.out hb
            have y6 := cell_then HB6.out hb
            go_wp2_with fail
            refine (csame_any (.slice q1 r1.length e1) (.slice q2 r2.length e2) r1 r2 z1 z2 w2 (HN1.out.below (below_then HB.out hb)) (HN2.out.below (below_then HB.out hb)) HL.out.2).mono ?_
            rintro _ w3 ⟨rfl, hb3⟩
            go_wp2_with fail
            go_ret
            exact ⟨by simp [Sc.sameB], below_then (below_then HB.out hb) hb3⟩
          · have hpd : decide (s1 = s2) = false := decide_eq_false hp
            go_wp2_with fail
            go_ret
            exact ⟨by simp [Sc.sameB, hp], below_then HB.out hb⟩
        · have hi : ¬ (⟨n1.toArray⟩ : ByteArray) = ⟨n2.toArray⟩ := fun e => hh (by simpa using e)
          have hi2 : decide ((⟨n1.toArray⟩ : ByteArray) = ⟨n2.toArray⟩) = false := decide_eq_false hi
          go_enter Tryz.func75, Tryz.ntmps75
          go_wp2_with fail
          go_ret
          exact ⟨by simp [Sc.sameB, hh], HB.out⟩
      · have hi : ¬ (t1 : Int) = (t2 : Int) := by omega
        go_enter Tryz.func75, Tryz.ntmps75
        go_wp2_with fail
        go_ret
        exact ⟨by simp [Sc.sameB, hh], HB.out⟩
    · have hi : ¬ (f1 : Int) = (f2 : Int) := by omega
      go_enter Tryz.func75, Tryz.ntmps75
      go_wp2_with fail
      go_ret
      exact ⟨by simp [Sc.sameB, hh], HB.out⟩
  · have hi : ¬ (k1 : Int) = (k2 : Int) := by omega
    go_enter Tryz.func75, Tryz.ntmps75
    go_wp2_with fail
    go_ret
    exact ⟨by simp [Sc.sameB, hh], HB.out⟩
end Go.Proofs.YtbhjkddjgikaiaaGreatDoor
