/-
  Own texts, several in one (Cal, RowSet, Insert).
-/
import Derived.Test.YtbhjkddjgikaiaaGreatDoorMrg13
import Derived.Test.YtbhjkddjgikaiaaGreatDoorMrg5
import Derived.Laws.IdiomCopy
import Derived.Lib.AppendZerosOnto
import Derived.Lib.Overlaps
import Derived.Laws.Externs
import Derived.Laws.NewBlocks
import Derived.Test.YtbhjkddjgikaiaaGreatDoorMrg11
namespace Go.Proofs.YtbhjkddjgikaiaaGreatDoor
open Go.RowKit
set_option linter.unusedVariables false
set_option linter.unusedSimpArgs false

/-- in which period a day is: i starts are below it -/
def Cal.per (l : List Int) (e d : Int) (i : Nat) : Option Nat := if e ≤ d then none else if i < l.length ∧ l.getD i 0 = d then some i else if i = 0 then none else some (i - 1)
def Cal.res : Option Nat → Value
  | some i => .tuple #[.int .i64 (i : Int), .bool true]
  | none => .tuple #[.int .i64 0, .bool false]
set_option maxHeartbeats 1000000 in
theorem period_any (v : Value) (l : List Int) (e d : Int) (i : Nat) (w : World) (hN : NsAt .i32 w v l) (hl : l.length ≤ 1000000) (hp : PosN l d i) :
    Calls Tryz.prog 80 #[.agg #[v, .int .i32 e], .int .i32 d] w fun r w' => r = .returned (Cal.res (Cal.per l e d i)) ∧ Below w.heap.size w w' := by
  have e1 : Cal.per l e d i = if e ≤ d then none else if (decide (i < l.length) && decide (l.getD i 0 = d)) = true then some i else if i = 0 then none else some (i - 1) := by
    unfold Cal.per
    congr 1
    by_cases c : i < l.length ∧ l.getD i 0 = d
    · rw [if_pos c, if_pos (by rw [decide_eq_true c.1, decide_eq_true c.2]; rfl)]
    · have hb : (decide (i < l.length) && decide (l.getD i 0 = d)) = false := by rw [← Bool.decide_and]; exact decide_eq_false c
      rw [if_neg c, hb]
      rfl
  obtain ⟨r, hr⟩ : ∃ r, r = Cal.per l e d i := ⟨_, rfl⟩
  rw [← hr]
  rw [e1] at hr
  have HB := Lib.hid (below_alloc (Below.refl _ w) (.cells #[v, .int .i32 e] 46))
  have R := Row.new w #[v, .int .i32 e] 46
  have HS := Lib.hid (search_day v l d i _ (hN.below HB.out) hl hp)
  have HL := Lib.hid (Nat.le_trans hp.1 hl)
  generalize (decide (i < l.length) && decide (l.getD i 0 = d)) = ok at *
  have HR := Lib.hid hr
  clear hN hl hp e1 hr
  go_enter Tryz.func80, Tryz.ntmps80
  go_wp2_with fail
  refine HS.out.mono ?_
  rintro _ w1 ⟨rfl, hb⟩
  have HBB := Lib.hid (below_then HB.out hb)
  have R1 := R.below hb
  obtain ⟨g, hg⟩ : ∃ g, g = w.heap.size := ⟨_, rfl⟩
  rw [← hg] at R1 ⊢
  have c1 : w1.cell? ⟨g, 1, none⟩ = some (.int .i32 e) := R1.cell 1
  clear hb R1 R hg HS
  by_cases hed : e ≤ d
  · have HED := Lib.hid hed
    cases ok with
    | true =>
      have h0 : ¬ ((i : Int) < 0) := by omega
      go_wp2_with fail
      exact bodyPost_ret (v := .tuple #[.int .i64 0, .bool false]) (by simp [results, Tryz.results80, go_sem]) rfl ⟨by rw [HR.out, if_pos HED.out]; rfl, HBB.out⟩
    | false =>
      have ew : IntKind.i64.wrap ((i : Int) - 1) = (i : Int) - 1 := by have := HL.out; rw [IntKind.wrap_i64]; omega
      by_cases hi : i = 0
      · have h0 : (i : Int) - 1 < 0 := by omega
        clear hi
        go_wp2_with fail
        exact bodyPost_ret (v := .tuple #[.int .i64 0, .bool false]) (by simp [results, Tryz.results80, go_sem]) rfl ⟨by rw [HR.out, if_pos HED.out]; rfl, HBB.out⟩
      · have h0 : ¬ ((i : Int) - 1 < 0) := by omega
        clear hi
        go_wp2_with fail
        exact bodyPost_ret (v := .tuple #[.int .i64 0, .bool false]) (by simp [results, Tryz.results80, go_sem]) rfl ⟨by rw [HR.out, if_pos HED.out]; rfl, HBB.out⟩
  · have HED := Lib.hid hed
    cases ok with
    | true =>
      have h0 : ¬ ((i : Int) < 0) := by omega
      go_wp2_with fail
      exact bodyPost_ret (v := .tuple #[.int .i64 (i : Int), .bool true]) (by simp [results, Tryz.results80, go_sem]) rfl ⟨by rw [HR.out, if_neg (show ¬ e ≤ d by have := HED.out; omega)]; rfl, HBB.out⟩
    | false =>
      have ew : IntKind.i64.wrap ((i : Int) - 1) = (i : Int) - 1 := by have := HL.out; rw [IntKind.wrap_i64]; omega
      by_cases hi : i = 0
      · have h0 : (i : Int) - 1 < 0 := by omega
        have HI := Lib.hid hi
        clear hi
        go_wp2_with fail
        exact bodyPost_ret (v := .tuple #[.int .i64 0, .bool false]) (by simp [results, Tryz.results80, go_sem]) rfl ⟨by rw [HR.out, if_neg (show ¬ e ≤ d by have := HED.out; omega), if_neg (by simp), if_pos HI.out]; rfl, HBB.out⟩
      · have h0 : ¬ ((i : Int) - 1 < 0) := by omega
        have he : (i : Int) - 1 = ((i - 1 : Nat) : Int) := by omega
        have HE := Lib.hid he
        have HI := Lib.hid hi
        clear hi he
        go_wp2_with fail
        exact bodyPost_ret (v := .tuple #[.int .i64 ((i : Int) - 1), .bool true]) (by simp [results, Tryz.results80, go_sem]) rfl ⟨by rw [HR.out, if_neg (show ¬ e ≤ d by have := HED.out; omega), HE.out, if_neg (by simp), if_neg HI.out]; rfl, HBB.out⟩
theorem pos_one (x y : Int) (h : x < y) : PosN [x] y 1 := by
  refine ⟨by simp, fun t ht => ?_, fun t h1 h2 => ?_⟩
  · obtain rfl : t = 0 := by omega
    exact h
  · simp at h2
    omega
theorem make8 (w : World) : Calls Tryz.prog 65 #[.int .i16 0, .slice none 0 0] w fun r w' => ∃ v, r = .returned (.agg #[v, .int .i32 31]) ∧ NsAt .i32 w' v [0] ∧ Below w.heap.size w w' := by
  go_enter Tryz.func65, Tryz.ntmps65
  go_wp2_with fail
  refine wp_loop_rounds 1 ?_
  rw [rounds_succ]
  go_wp2_with fail
  have hB1 := below_alloc (Below.refl _ w) (.cells #[.slice (some ⟨w.heap.size + 1, 0, none⟩) 1 1, .int .i32 31] 46)
  have R1 := Row.new' (w.alloc (.cells #[.slice (some ⟨w.heap.size + 1, 0, none⟩) 1 1, .int .i32 31] 46)) #[.int .i32 0] 44 (g := w.heap.size + 1) (by simp)
  have hN : NsAt .i32 _ (.slice (some ⟨w.heap.size + 1, 0, none⟩) 1 1) [0] := NsAt.of_row (l := [0]) (R1.alloc (.cells #[.slice (some ⟨w.heap.size + 1, 0, none⟩) 1 1, .int .i32 31] 46))
  exact bodyPost_ret (v := .agg #[.slice (some ⟨w.heap.size + 1, 0, none⟩) 1 1, .int .i32 31]) (by simp [results, Tryz.results65, go_sem]) rfl ⟨_, rfl, hN, below_alloc (below_alloc hB1 _) _⟩
set_option maxHeartbeats 1000000 in
theorem awake8_of (h7 : ∀ w, Glb5 w → Calls Tryz.prog 266 #[] w fun e w' => e = .returned (.bool true) ∧ Below w.heap.size w w') (w : World) (hG : Glb5 w) : Calls Tryz.prog 252 #[] w fun e w' => e = .returned (.bool true) ∧ Below w.heap.size w w' := by
  have HG := Lib.hid hG
  have H7 := Lib.hid h7
  clear hG h7
  go_enter Tryz.func252, Tryz.ntmps252
  go_wp2_with fail
  refine (make8 w).mono ?_
  rintro _ w1 ⟨v, rfl, hN, hb⟩
  have HB := Lib.hid hb
  have HP := Lib.hid (period_any v [0] 31 30 1 w1 hN (by show 1 ≤ 1000000; omega) (pos_one 0 30 (by omega)))
  clear hN hb
  go_wp2_with fail
  refine HP.out.mono ?_
  rintro _ w2 ⟨rfl, hb⟩
  have HB2 := Lib.hid (below_then HB.out hb)
  clear hb HP
  rw [show Cal.res (Cal.per [0] 31 30 1) = .tuple #[.int .i64 0, .bool true] from rfl]
  go_wp2_with fail
  refine (make8 w2).mono ?_
  rintro _ w3 ⟨v3, rfl, hN, hb⟩
  have HB3 := Lib.hid (below_then HB2.out hb)
  have HP := Lib.hid (period_any v3 [0] 31 31 1 w3 hN (by show 1 ≤ 1000000; omega) (pos_one 0 31 (by omega)))
  clear hN hb
  go_wp2_with fail
  refine HP.out.mono ?_
  rintro _ w4 ⟨rfl, hb⟩
  have HB4 := Lib.hid (below_then HB3.out hb)
  clear hb HP
  rw [show Cal.res (Cal.per [0] 31 31 1) = .tuple #[.int .i64 0, .bool false] from rfl]
  go_wp2_with fail
  refine (H7.out w4 (HG.out.below HB4.out)).mono ?_
  rintro _ w5 ⟨rfl, hb5⟩
  go_wp2
  go_ret
  exact ⟨rfl, below_then HB4.out hb5⟩
end Go.Proofs.YtbhjkddjgikaiaaGreatDoor

namespace Go.Proofs.YtbhjkddjgikaiaaGreatDoor
open Go.RowKit
set_option linter.unusedVariables false
set_option linter.unusedSimpArgs false

def putAt : List Value → Nat → Array Value → Array Value
  | [], _, cur => cur
  | v :: r, o, cur => putAt r (o + 1) (cur.setIfInBounds o v)
theorem putAt_size : ∀ (vs : List Value) (o : Nat) (cur : Array Value), (putAt vs o cur).size = cur.size
  | [], _, _ => rfl
  | v :: r, o, cur => by unfold putAt; rw [putAt_size r]; simp
theorem putAt_get : ∀ (vs : List Value) (o : Nat) (cur : Array Value) (j : Nat), (putAt vs o cur)[j]? = if o ≤ j ∧ j < o + vs.length ∧ j < cur.size then vs[j - o]? else cur[j]?
  | [], o, cur, j => by
    unfold putAt
    rw [if_neg (by simp; omega)]
  | v :: r, o, cur, j => by
    unfold putAt
    rw [putAt_get r (o + 1) _ j, Array.getElem?_setIfInBounds, Array.size_setIfInBounds]
    by_cases h : j = o
    · subst h
      rw [if_neg (by omega)]
      by_cases hs : j < cur.size
      · rw [if_pos rfl, if_pos hs, if_pos ⟨Nat.le_refl _, by simp, hs⟩]
        simp
      · rw [if_pos rfl, if_neg hs, if_neg (by omega), Array.getElem?_eq_none (by omega)]
    · by_cases c : o + 1 ≤ j ∧ j < o + 1 + r.length ∧ j < cur.size
      · rw [if_pos c, if_pos (by simp; omega), show j - o = (j - (o + 1)) + 1 by omega, List.getElem?_cons_succ]
      · rw [if_neg c, if_neg (fun e => h e.symm), if_neg (by simp; omega)]
theorem stored_setCell (w : World) (g k : Nat) (v : Value) : Stored w g (w.setCell ⟨g, k, none⟩ v) := by
  unfold World.setCell
  refine ⟨fun j hj => ?_, by simp, rfl, rfl, rfl⟩
  simp only [Array.getElem?_modify]
  rw [if_neg (fun e => hj e.symm)]
theorem Stored.trans {a b c : World} {g : Nat} (h : Stored a g b) (k : Stored b g c) : Stored a g c :=
  ⟨fun j hj => (k.other j hj).trans (h.other j hj), k.size.trans h.size, k.os.trans h.os, k.tape.trans h.tape, k.output.trans h.output⟩
theorem Stored.refl (a : World) (g : Nat) : Stored a g a := ⟨fun _ _ => rfl, rfl, rfl, rfl, rfl⟩
theorem stored_dr {a b : World} {g : Nat} (h : Stored a g b) : Stored a g b.drew := ⟨h.other, h.size, h.os, h.tape, h.output⟩
theorem stored_setCells (g : Nat) : ∀ (vs : List Value) (o : Nat) (w : World), Stored w g (w.setCells g o vs)
  | [], _, w => Stored.refl w g
  | v :: r, o, w => (stored_setCell w g o v).trans (stored_setCells g r (o + 1) _)
theorem Row.setCells {g : Nat} {t : TypeId} : ∀ (vs : List Value) (o : Nat) {w : World} {cur : Array Value}, Row w g cur t → Row (w.setCells g o vs) g (putAt vs o cur) t
  | [], _, _, _, h => h
  | v :: r, o, _, _, h => Row.setCells r (o + 1) (h.set o v)
/-- copy into a row that is known whole -/
theorem copy_row {P : Program} {W : World} {g : Nat} {cur : Array Value} {t : TypeId} (R : Row W g cur t) (dT sT ty elem : TypeId) (o dLen dCap sb so sLen sCap : Nat) (cs : List Value)
    (hu : P.underlying dT = some (.slice elem)) (hs : (P.info? elem).map (·.size) = some 1) (hn : cs.length = Nat.min sLen dLen) (hsrc : ∀ j v, cs[j]? = some v → W.cell? ⟨sb, so + j, none⟩ = some v) (ho : o + cs.length ≤ cur.size) (h1 : ∀ v ∈ cs, v.oneCell' = true) :
    (Builtin.copy_ #[dT, sT] ty #[.slice (some ⟨g, o, none⟩) dLen dCap, .slice (some ⟨sb, so, none⟩) sLen sCap]).run P W = .ok (goInt cs.length) (W.setCells g o cs) :=
  run_copy_cells W dT sT ty elem g o dLen dCap ⟨sb, so, none⟩ sLen sCap cs hu hs hn (fun j v hj => by rw [show (⟨sb, so, none⟩ : Addr).add j = ⟨sb, so + j, none⟩ by simp [Addr.add]]; exact hsrc j v hj)
    (fun j hj => by rw [R.cell, Array.getElem?_eq_getElem (by omega)]; rfl) (fun j hj => frozen_of_row W g (o + j) cur t R) h1
section
variable {P : Program}
theorem run_copy_op {ρ : Operand → Value} {o : Oper} (d s : Operand) (t1 t2 : TypeId) (ho : o.op = .call { callee := .builtin .copy, args := #[d, s], argTypes := #[t1, t2] }) {vd vs v' : Value} (hd : ρ d = vd) (hs : ρ s = vs) {w w' : World} (hr : (Builtin.copy_ #[t1, t2] o.type #[vd, vs]).run P w = .ok v' w') : (execOp ρ o).run P w = .ok (.value v') w' := by
  unfold execOp
  simp only [ho, resolve, invoke, builtin, Sem.run_bind, Sem.run_pure, Result.andThen_ok, List.map_toArray, List.map_cons, List.map_nil, hd, hs, hr]
theorem run_app_op {ρ : Operand → Value} {o : Oper} (d s : Operand) (t1 t2 : TypeId) (ho : o.op = .call { callee := .builtin .append, args := #[d, s], argTypes := #[t1, t2] }) {vd vs v' : Value} (hd : ρ d = vd) (hs : ρ s = vs) {w w' : World} (hr : (Builtin.append_ #[t1, t2] o.type #[vd, vs]).run P w = .ok v' w') : (execOp ρ o).run P w = .ok (.value v') w' := by
  unfold execOp
  simp only [ho, resolve, invoke, builtin, Sem.run_bind, Sem.run_pure, Result.andThen_ok, List.map_toArray, List.map_cons, List.map_nil, hd, hs, hr]
/-- an operation of a list whose run is known -/
theorem ev_run {ops : Array Oper} {rest : List Oper} {o : Oper} {a : Act} {Q : Exit → Act → World → Prop} {W W' : World} {v : Value} (hgd : o.guard = none) (hr : (execOp a.eval o).run P W = .ok (.value v) W') (h : wpList P ops Q rest (a.put o.dst v) W') : wpList P ops Q (o :: rest) a W := by
  refine wpList_plain hgd fun K hK => ?_
  unfold Oper.wp
  rw [hr]
  exact hK _ _ h
variable {ops : Array Oper}
theorem yv_valw {S : World → Prop} {o : Oper} {v : Value} {F : Act} {w w' : World} (hw : Region.wanted o (yielded ops F.tmps) = true) (hS : S w') (hr : (execOp F.eval o).run P w = .ok (.value v) w') : YieldsV P ops S o v F w := .inr (.inl ⟨hw, w', hr, hS⟩)
end
end Go.Proofs.YtbhjkddjgikaiaaGreatDoor

namespace Go.Proofs.YtbhjkddjgikaiaaGreatDoor
open Go.RowKit
set_option linter.unusedVariables false
set_option linter.unusedSimpArgs false

theorem addr_add (g o j : Nat) : (⟨g, o, none⟩ : Addr).add j = ⟨g, o + j, none⟩ := by simp [Addr.add]
theorem nv_one (k : IntKind) (l : List Int) : ∀ u ∈ nv k l, u.oneCell' = true := by
  intro u hu
  obtain ⟨z, _, rfl⟩ := List.mem_map.1 hu
  rfl
theorem nv_len (k : IntKind) (l : List Int) : (nv k l).length = l.length := by simp [nv]
/-- what a row holds behind an insertion that moved its end up by one -/
theorem ins_take (k : IntKind) (xs : List Int) (x : Int) (i n : Nat) (cur : Array Value) (hl : xs.length = n) (hi : i < n) (hs : n + 1 ≤ cur.size) (ht : cur.toList.take i = nv k (xs.take i)) :
    (putAt [.int k x] i (putAt (nv k (xs.drop i)) (i + 1) cur)).toList.take (n + 1) = nv k (xs.take i ++ x :: xs.drop i) := by
  apply List.ext_getElem?
  intro j
  rw [List.getElem?_take]
  by_cases hj : j < n + 1
  · rw [if_pos hj, Array.getElem?_toList, putAt_get, putAt_get, putAt_size]
    have hd : (nv k (xs.drop i)).length = n - i := by rw [nv_len, List.length_drop, hl]
    have e0 : (nv k (xs.take i ++ x :: xs.drop i)) = nv k (xs.take i) ++ .int k x :: nv k (xs.drop i) := by simp [nv]
    have hlt : (nv k (xs.take i)).length = i := by rw [nv_len, List.length_take]; omega
    rw [e0]
    by_cases c1 : j < i
    · rw [if_neg (by simp; omega), if_neg (by omega), List.getElem?_append_left (by omega), ← ht, List.getElem?_take, if_pos c1, Array.getElem?_toList]
    · by_cases c2 : j = i
      · subst c2
        rw [if_pos ⟨Nat.le_refl _, by simp, by omega⟩, List.getElem?_append_right (by omega), hlt]
        simp
      · rw [if_neg (by simp; omega), if_pos ⟨by omega, by omega, by omega⟩, List.getElem?_append_right (by omega), hlt, show j - i = (j - (i + 1)) + 1 by omega, List.getElem?_cons_succ]
  · rw [if_neg hj, List.getElem?_eq_none]
    rw [nv_len, List.length_append, List.length_cons, List.length_take, List.length_drop]
    omega
set_option maxHeartbeats 4000000 in
set_option maxRecDepth 100000 in
theorem insert_room (B g cap n p vb : Nat) (cur : Array Value) (xs : List Int) (x : Int) (w : World) (RG : Row w g cur 34) (RV : Row w vb #[.int .u16 x] 34) (hne : vb ≠ g) (hB : B ≤ g) (hxs : xs.length = n) (hi : p < n) (hroom : n + 1 ≤ cap) (hcap : cap ≤ maxLen ∧ n ≤ 100000) (hcs : cur.size = cap) (hcur : cur.toList.take n = nv .u16 xs) :
    Calls Tryz.prog 172 #[.slice (some ⟨g, 0, none⟩) n cap, .int .i64 (p : Int), .slice (some ⟨vb, 0, none⟩) 1 1] w fun e w' => ∃ v', e = .returned v' ∧ w'.ownsRow B 34 1 v' (n + 1) (nv .u16 (xs.take p ++ x :: xs.drop p)) ∧ Below B w w' := by
  have hov : ∀ (W : World) lb cb, Row W g cur 34 → Row W vb #[.int .u16 x] 34 → (callFunc 212 #[.slice (some ⟨vb, 0, none⟩) 1 1, .slice (some ⟨g, p + 1, none⟩) lb cb]).run Tryz.prog W = .ok (.value (.bool false)) W := fun W lb cb R1 R2 => by
    have hA : W.shape? vb = some (34, 1) := by unfold Row at R2; simp [World.shape?, R2]
    have hG : W.shape? g = some (34, cur.size) := by unfold Row at R1; simp [World.shape?, R1]
    rw [run_callFunc_extern Tryz.func212 (by kernel_rfl) (by kernel_rfl) (by kernel_rfl) (e := Extern.SlicesOverlaps.overlaps #[59, 59] #[4]) (by kernel_rfl),
      Lib.run_overlaps_apart W 59 4 34 Tryz.underlying59 1 (fun _ => by kernel_rfl) ⟨vb, 0, none⟩ ⟨g, p + 1, none⟩ 1 1 lb cb hne _ _ 1 cur.size hA hG (by omega) (frozen_of_row W vb 0 _ _ R2) (frozen_of_row W vb 1 _ _ R2)]
    rfl
  have HG := Lib.hid RG
  have HV := Lib.hid RV
  have HOV := Lib.hid hov
  have hB0 : (0 : Int) ≤ (p : Int) := by omega
  have h1 : (p : Int) ≤ (n : Int) := by omega
  have h2 : (p : Int) < (n : Int) := by omega
  have h3 : ¬ ((p : Int) = (n : Int)) := by omega
  have h3b : ((p : Int) == (n : Int)) = false := beq_eq_false_iff_ne.2 h3
  have h4 : ¬ ((cap : Int) < (n : Int) + 1) := by omega
  have h5 : (n : Int) + 1 ≤ (cap : Int) := by omega
  have h6 : (p : Int) ≤ (cap : Int) := by omega
  have h7 : (n : Int) ≤ (cap : Int) := by omega
  have e1 : IntKind.i64.wrap ((n : Int) + 1) = (n : Int) + 1 := by rw [IntKind.wrap_i64]; omega
  have e2 : IntKind.i64.wrap ((p : Int) + 1) = (p : Int) + 1 := by rw [IntKind.wrap_i64]; omega
  have n1 : ¬ (cap = p) := by omega
  have n2 : ¬ (cap = p + 1) := by omega
  have n3 : p ≤ n := by omega
  have n4 : p ≤ cap := by omega
  have n5 : n + 1 ≤ cap := by omega
  have n6 : p + 1 ≤ n + 1 := by omega
  have n7 : p ≤ n + 1 := by omega
  have n8 : n ≤ cap := by omega
  have m1 : (p : Int) + 1 ≤ (n : Int) + 1 := by omega
  have m2 : (p : Int) ≤ (n : Int) + 1 := by omega
  have m3 : (0 : Int) ≤ (p : Int) + 1 := by omega
  have m4 : (0 : Int) ≤ (n : Int) + 1 := by omega
  have m5 : (p : Int) + 1 ≤ (cap : Int) := by omega
  have t1 : ((p : Int) + 1).toNat = p + 1 := by omega
  have t2 : ((n : Int) + 1).toNat = n + 1 := by omega
  have HI := Lib.hid (And.intro hi (And.intro hroom (And.intro hcap (And.intro hcs hxs))))
  have HCUR := Lib.hid hcur
  clear RG RV hov hi hroom hcap hcs hxs hcur
  go_enter Tryz.func172, Tryz.ntmps172
  have hov2 := fun lb cb => HOV.out w lb cb HG.out HV.out
  go_wp2_with (simp only [hov2])
  refine region_lits1 (n := 9) 8 3 (by kernel_rfl) (fun c' w' => Stored w g w' ∧ Row w' g (if c' then putAt (nv .u16 (xs.drop p)) (p + 1) cur else cur) 34) (fun i => (#[.slice (some ⟨g, 0, none⟩) (n + 1) cap, .int .i64 (p : Int), .int .i64 1, .int .i64 ((p : Int) + 1), .slice (some ⟨g, p + 1, none⟩) (n - p) (cap - (p + 1)), .slice (some ⟨g, 0, none⟩) (n + 1) cap, .int .i64 (p : Int), .slice (some ⟨g, p, none⟩) (n + 1 - p) (cap - p), .int .i64 ((n - p : Nat) : Int)] : Array Value).getD i undef) (by kernel_rfl) (by kernel_rfl) ⟨stored_dr (Stored.refl w g), HG.out⟩ rfl ?_
  intro F hF
  simp only [fill, if_true, dstAt] at hF
  simp [Act.put] at hF
  subst hF
  refine ⟨?_, ?_⟩
  · intro i o ho c wx hcm S
    rcases i with _ | _ | _ | _ | _ | _ | _ | _ | _ | i
    all_goals (first | (simp at ho; done) | (obtain rfl := Option.some.inj ho))
    · exact yv_val rfl S (by go_simp)
    · exact yv_val rfl S (by go_simp)
    · exact yv_val rfl S (by go_simp)
    · exact yv_val rfl S (by go_simp)
    · exact yv_val rfl S (by go_simp)
    · exact yv_val rfl S (by go_simp)
    · exact yv_val rfl S (by go_simp)
    · exact yv_val rfl S (by go_simp)
    · obtain rfl : c = false := hcm (by kernel_rfl)
      have hI := HI.out
      have hl : (nv .u16 (xs.drop p)).length = n - p := by rw [nv_len, List.length_drop, hI.2.2.2.2]
      have hr := fun ty => copy_row (P := Tryz.prog) S.2 65 65 ty 34 (p + 1) (n - p) (cap - (p + 1)) g p (n + 1 - p) (cap - p) (nv .u16 (xs.drop p)) Tryz.underlying65 (by kernel_rfl) (by rw [hl]; show n - p = min (n + 1 - p) (n - p); omega) (fun j v hj => by
        have S2 := S.2
        rw [S2.cell (p + j)]
        have h := congrArg (fun t => t[p + j]?) HCUR.out
        simp only [List.getElem?_take] at h
        have hjl : j < n - p := by
          by_cases cc : j < n - p
          · exact cc
          · rw [List.getElem?_eq_none (by rw [hl]; omega)] at hj; cases hj
        rw [if_pos (by omega)] at h
        show cur[p + j]? = some v
        rw [← Array.getElem?_toList, h, ← hj]
        simp [nv]) (by rw [hl]; have := hI; show p + 1 + (n - p) ≤ cur.size; omega) (nv_one _ _)
      rw [hl] at hr
      exact yv_valw rfl ⟨S.1.trans (stored_setCells g _ _ _), Row.setCells _ _ S.2⟩ (run_copy_op _ _ _ _ rfl rfl rfl (hr _))
  · intro wy S
    simp only [if_true] at S
    have HS := Lib.hid S
    have HV2 := Lib.hid (HV.out.stored S.1 hne)
    have hcp : ∀ ty, (Builtin.copy_ #[65, 59] ty #[.slice (some ⟨g, p, none⟩) (n + 1 - p) (cap - p), .slice (some ⟨vb, 0, none⟩) 1 1]).run Tryz.prog wy = .ok (goInt 1) (wy.setCells g p [.int .u16 x]) := fun ty =>
      copy_row S.2 65 59 ty 34 p (n + 1 - p) (cap - p) vb 0 1 1 [.int .u16 x] Tryz.underlying65 (by kernel_rfl) (by have := HI.out; show 1 = min 1 (n + 1 - p); omega) (fun j v hj => by rw [Nat.zero_add, HV2.out.cell j]; simpa using hj) (by rw [putAt_size]; have := HI.out; simp; omega) (by simp [Value.oneCell'])
    clear S
    go_wp2_with (first | (at_builtin; refine ev_run rfl (run_copy_op _ _ _ _ rfl rfl rfl (hcp _)) ?_))
    go_ret
    have hI := HI.out
    refine ⟨_, rfl, ⟨by rw [nv_len, List.length_append, List.length_cons, List.length_take, List.length_drop]; omega, .inr ⟨g, cap, _, rfl, hB, Row.setCells [.int .u16 x] p HS.out.2, by omega, hI.2.2.1.1, by rw [putAt_size, putAt_size]; omega, ?_⟩⟩, (HS.out.1.trans (stored_setCells g _ p _)).below (Below.refl B w) hB⟩
    rw [Nat.mul_one]
    refine ins_take .u16 xs x p n cur hI.2.2.2.2 hI.1 (by omega) ?_
    have h := congrArg (List.take p) HCUR.out
    rw [List.take_take, Nat.min_eq_left (by omega)] at h
    rw [h]
    simp [nv, List.map_take]
/-- the same where the end was moved behind the new one's place was filled -/
theorem ins_take2 (k : IntKind) (xs : List Int) (x : Int) (i n : Nat) (cur : Array Value) (hl : xs.length = n) (hi : i < n) (hs : n + 1 ≤ cur.size) (ht : cur.toList.take i = nv k (xs.take i)) :
    (putAt (nv k (xs.drop i)) (i + 1) (putAt [.int k x] i cur)).toList.take (n + 1) = nv k (xs.take i ++ x :: xs.drop i) := by
  rw [← ins_take k xs x i n cur hl hi hs ht]
  congr 2
  apply Array.ext_getElem?
  intro j
  have hd : (nv k (xs.drop i)).length = n - i := by rw [nv_len, List.length_drop, hl]
  simp only [putAt_get, putAt_size, hd, List.length_singleton]
  by_cases c1 : i + 1 ≤ j ∧ j < i + 1 + (n - i) ∧ j < cur.size
  · rw [if_pos c1, if_neg (by omega), if_pos c1]
  · rw [if_neg c1]
    by_cases c2 : i ≤ j ∧ j < i + 1 ∧ j < cur.size
    · rw [if_pos c2, if_pos c2]
    · rw [if_neg c2, if_neg c2, if_neg c1]
set_option maxHeartbeats 4000000 in
set_option maxRecDepth 100000 in
theorem insert_grow (B g n p vb : Nat) (cur : Array Value) (xs : List Int) (x : Int) (w : World) (RG : Row w g cur 34) (RV : Row w vb #[.int .u16 x] 34) (hne : vb ≠ g) (hB : B ≤ w.heap.size) (hxs : xs.length = n) (hp : p < n) (hn : n ≤ 100000) (hcs : cur.size = n) (hcur : cur.toList = nv .u16 xs) :
    Calls Tryz.prog 172 #[.slice (some ⟨g, 0, none⟩) n n, .int .i64 (p : Int), .slice (some ⟨vb, 0, none⟩) 1 1] w fun e w' => ∃ v', e = .returned v' ∧ w'.ownsRow B 34 1 v' (n + 1) (nv .u16 (xs.take p ++ x :: xs.drop p)) ∧ Below B w w' := by
  obtain ⟨i0, hi0, hz0, hs0, hb0⟩ : ∃ i, Tryz.prog.info? 34 = some i ∧ i.zero = some (.int .u16 0) ∧ i.size = 1 ∧ i.bytes = 2 := by
    have h : (Tryz.prog.info? 34).map (fun i => (i.zero, i.size, i.bytes)) = some (some (.int .u16 0), 1, 2) := by kernel_rfl
    obtain ⟨i, hi, h⟩ := Option.map_eq_some_iff.1 h
    simp only [Prod.mk.injEq] at h
    exact ⟨i, hi, h.1, h.2.1, h.2.2⟩
  have hcell : ∀ (j : Nat) (v : Value), (nv .u16 xs)[j]? = some v → w.cell? ⟨g, 0 + j, none⟩ = some v := fun j v hj => by
    rw [Nat.zero_add, RG.cell j, ← Array.getElem?_toList, hcur]
    exact hj
  have hold : (Builtin.firstCells i0.size p (.slice (some ⟨g, 0, none⟩) p n)).run Tryz.prog w.drew = .ok (nv .u16 (xs.take p)).toArray w.drew := by
    rw [hs0]
    exact run_firstCells_some w.drew 1 p ⟨g, 0, none⟩ p n (nv .u16 (xs.take p)) (by rw [nv_len, List.length_take]; omega) (fun j v hj => by
      rw [show (⟨g, 0, none⟩ : Addr).add j = ⟨g, 0 + j, none⟩ from addr_add g 0 j]
      refine hcell j v ?_
      simp only [nv, List.map_take, List.getElem?_take] at hj ⊢
      split at hj
      · exact hj
      · cases hj)
  obtain ⟨G, hG⟩ : ∃ G, G = grownCap w (n + 1) n 34 := ⟨_, rfl⟩
  have hG1 : n + 1 ≤ G := by rw [hG]; exact grownCap_ge w _ _ _
  have hG2 : G ≤ maxLen := by rw [hG]; exact grownCap_le_maxLen w _ _ _ (by unfold maxLen; omega)
  obtain ⟨ROW, hROW⟩ : ∃ ROW : Array Value, ROW = (nv .u16 (xs.take p)).toArray ++ Builtin.zeroCells (Value.int .u16 0).cells (n + 1 - p) ++ Builtin.zeroCells (Value.int .u16 0).cells (G - (n + 1)) := ⟨_, rfl⟩
  have hRs : ROW.size = G := by
    rw [hROW]
    have h1 : (nv .u16 (xs.take p)).length = p := by rw [nv_len, List.length_take]; omega
    simp [Builtin.zeroCells, Value.cells, h1]
    omega
  have hRt : ROW.toList.take p = nv .u16 (xs.take p) := by
    rw [hROW, Array.toList_append, Array.toList_append, List.append_assoc]
    have h1 : (nv .u16 (xs.take p)).length = p := by rw [nv_len, List.length_take]; omega
    show List.take p (nv .u16 (xs.take p) ++ _) = _
    rw [List.take_append_of_le_length (by omega), List.take_of_length_le (by omega)]
  have hrz : ∀ ty, (Builtin.append_ #[65, 3] ty #[.slice (some ⟨g, 0, none⟩) p n, .int .i64 ((n : Int) + 1 - (p : Int))]).run Tryz.prog w = .ok (.slice (some ⟨w.heap.size, 0, none⟩) (n + 1) G) (w.drew.alloc (.cells ROW 34)) := fun ty => by
    have h := Lib.run_append_grow_zeros (P := Tryz.prog) w 65 3 ty 34 i0 (.int .u16 0) .i64 .i64 Tryz.underlying65 Tryz.underlying3 hi0 hz0 (some ⟨g, 0, none⟩) p n (nv .u16 (xs.take p)) hold (n + 1 - p) (by omega) (by omega) (by omega) (by omega) (by rw [hb0]; omega) (by rw [hb0]; exact growslice_fits (by omega) (by omega))
    rw [show p + (n + 1 - p) = n + 1 by omega, ← hG, ← hROW] at h
    rw [show (n : Int) + 1 - (p : Int) = ((n + 1 - p : Nat) : Int) by omega]
    exact h
  have R1 : Row (w.drew.alloc (.cells ROW 34)) w.heap.size ROW 34 := Row.new w.drew ROW 34
  have B1 : Below w.heap.size w (w.drew.alloc (.cells ROW 34)) := below_alloc (below_dr (Below.refl _ w)) _
  have hlg := RG.lt
  have hlv := RV.lt
  have HRZ := Lib.hid hrz
  obtain ⟨gn, hgn⟩ : ∃ g, g = w.heap.size := ⟨_, rfl⟩
  rw [← hgn] at R1 HRZ B1 hB hlg hlv
  have HGN := Lib.hid hgn
  clear hgn
  generalize hW1 : w.drew.alloc (.cells ROW 34) = w1 at *
  have RG1 : Row w1 g cur 34 := (B1.block g hlg).trans RG
  have RV1 : Row w1 vb #[.int .u16 x] 34 := (B1.block vb hlv).trans RV
  have hcpA : ∀ ty, (Builtin.copy_ #[65, 59] ty #[.slice (some ⟨gn, p, none⟩) (n + 1 - p) (G - p), .slice (some ⟨vb, 0, none⟩) 1 1]).run Tryz.prog w1 = .ok (goInt 1) (w1.setCells gn p [.int .u16 x]) := fun ty =>
    copy_row R1 65 59 ty 34 p (n + 1 - p) (G - p) vb 0 1 1 [.int .u16 x] Tryz.underlying65 (by kernel_rfl) (by show 1 = min 1 (n + 1 - p); omega) (fun j v hj => by rw [Nat.zero_add, RV1.cell j]; simpa using hj) (by rw [hRs]; simp; omega) (by simp [Value.oneCell'])
  have HCA := Lib.hid hcpA
  have R2 := Row.setCells [.int .u16 x] p R1
  have S2 := stored_setCells gn [.int .u16 x] p w1
  have RG2 : Row (w1.setCells gn p [.int .u16 x]) g cur 34 := RG1.stored S2 (by omega)
  have B2 : Below gn w (w1.setCells gn p [.int .u16 x]) := S2.below B1 (Nat.le_refl _)
  generalize hW2 : w1.setCells gn p [.int .u16 x] = w2 at *
  have HW2 := Lib.hid hW2
  clear hW1 hW2
  have HR2 := Lib.hid R2
  have HG2 := Lib.hid RG2
  have HB2 := Lib.hid B2
  have HX := Lib.hid (And.intro hp (And.intro hn (And.intro hcs (And.intro hxs (And.intro hG1 (And.intro hG2 (And.intro hRs hRt)))))))
  have HCUR := Lib.hid hcur
  have HGL := Lib.hid hlg
  have h2 : (p : Int) < (n : Int) := by omega
  have h1 : (p : Int) ≤ (n : Int) := by omega
  have h3 : ¬ ((p : Int) = (n : Int)) := by omega
  have h3b : ((p : Int) == (n : Int)) = false := beq_eq_false_iff_ne.2 h3
  have h4 : (n : Int) < (n : Int) + 1 := by omega
  have hB0 : (0 : Int) ≤ (p : Int) := by omega
  have e1 : IntKind.i64.wrap ((n : Int) + 1) = (n : Int) + 1 := by rw [IntKind.wrap_i64]; omega
  have e2 : IntKind.i64.wrap ((p : Int) + 1) = (p : Int) + 1 := by rw [IntKind.wrap_i64]; omega
  have e3 : IntKind.i64.wrap ((n : Int) + 1 - (p : Int)) = (n : Int) + 1 - (p : Int) := by rw [IntKind.wrap_i64]; omega
  have n1 : ¬ (G = p) := by omega
  have n2 : ¬ (G = p + 1) := by omega
  have n3 : p ≤ n := by omega
  have n9 : ¬ (n = p) := by omega
  have n6 : p + 1 ≤ n + 1 := by omega
  have n7 : p ≤ n + 1 := by omega
  have m1 : (p : Int) + 1 ≤ (n : Int) + 1 := by omega
  have m2 : (p : Int) ≤ (n : Int) + 1 := by omega
  have m3 : (0 : Int) ≤ (p : Int) + 1 := by omega
  have t1 : ((p : Int) + 1).toNat = p + 1 := by omega
  clear RG RV hp hn hcs hxs hcur hrz hcpA hold hcell hi0 hz0 hs0 hb0 hG1 hG2 hRs hRt R1 B1 RG1 RV1 R2 S2 RG2 B2 hlg hlv hG hROW
  go_enter Tryz.func172, Tryz.ntmps172
  go_wp2_with (first | (at_builtin; refine ev_run rfl (run_app_op _ _ _ _ rfl rfl rfl (HRZ.out _)) ?_))
  rw [HCA.out]
  go_wp2_with fail
  refine region_lits1 (n := 9) 8 3 (by kernel_rfl) (fun c' w' => Stored w2 gn w' ∧ Row w' g cur 34 ∧ Row w' gn (if c' then putAt (nv .u16 (xs.drop p)) (p + 1) (putAt [.int .u16 x] p ROW) else putAt [.int .u16 x] p ROW) 34) (fun i => (#[.slice (some ⟨gn, 0, none⟩) (n + 1) G, .int .i64 (p : Int), .int .i64 1, .int .i64 ((p : Int) + 1), .slice (some ⟨gn, p + 1, none⟩) (n - p) (G - (p + 1)), .slice (some ⟨g, 0, none⟩) n n, .int .i64 (p : Int), .slice (some ⟨g, p, none⟩) (n - p) (n - p), .int .i64 ((n - p : Nat) : Int)] : Array Value).getD i undef) (by kernel_rfl) (by kernel_rfl) ⟨stored_dr (Stored.refl w2 gn), HG2.out, HR2.out⟩ rfl ?_
  intro F hF
  simp only [fill, if_true, dstAt] at hF
  simp [Act.put] at hF
  subst hF
  refine ⟨?_, ?_⟩
  · intro i o ho c wx hcm S
    rcases i with _ | _ | _ | _ | _ | _ | _ | _ | _ | i
    all_goals (first | (simp at ho; done) | (obtain rfl := Option.some.inj ho))
    · exact yv_val rfl S (by go_simp)
    · exact yv_val rfl S (by go_simp)
    · exact yv_val rfl S (by go_simp)
    · exact yv_val rfl S (by go_simp)
    · exact yv_val rfl S (by go_simp)
    · exact yv_val rfl S (by go_simp)
    · exact yv_val rfl S (by go_simp)
    · exact yv_val rfl S (by go_simp)
    · obtain rfl : c = false := hcm (by kernel_rfl)
      have hX := HX.out
      have hl : (nv .u16 (xs.drop p)).length = n - p := by rw [nv_len, List.length_drop, hX.2.2.2.1]
      have hr := fun ty => copy_row (P := Tryz.prog) S.2.2 65 65 ty 34 (p + 1) (n - p) (G - (p + 1)) g p (n - p) (n - p) (nv .u16 (xs.drop p)) Tryz.underlying65 (by kernel_rfl) (by rw [hl]; show n - p = min (n - p) (n - p); omega) (fun j v hj => by
        have S2 := S.2.1
        rw [S2.cell (p + j), ← Array.getElem?_toList, HCUR.out, ← hj]
        simp [nv]) (by rw [hl]; have := hX; show p + 1 + (n - p) ≤ (putAt [.int .u16 x] p ROW).size; rw [putAt_size]; omega) (nv_one _ _)
      rw [hl] at hr
      exact yv_valw rfl ⟨S.1.trans (stored_setCells gn _ _ _), S.2.1.stored (stored_setCells gn _ _ _) (by have := HGL.out; omega), Row.setCells _ _ S.2.2⟩ (run_copy_op _ _ _ _ rfl rfl rfl (hr _))
  · intro wy S
    simp only [if_true] at S
    have HS := Lib.hid S
    clear S
    go_wp2_with fail
    go_ret
    have hX := HX.out
    refine ⟨_, rfl, ⟨by rw [nv_len, List.length_append, List.length_cons, List.length_take, List.length_drop]; omega, .inr ⟨gn, G, _, rfl, hB, HS.out.2.2, by omega, hX.2.2.2.2.2.1, by rw [putAt_size, putAt_size]; omega, ?_⟩⟩, (HS.out.1.below HB2.out (Nat.le_refl _)).mono (by omega)⟩
    rw [Nat.mul_one]
    exact ins_take2 .u16 xs x p n ROW hX.2.2.2.1 hX.1 (by omega) hX.2.2.2.2.2.2.2
end Go.Proofs.YtbhjkddjgikaiaaGreatDoor
