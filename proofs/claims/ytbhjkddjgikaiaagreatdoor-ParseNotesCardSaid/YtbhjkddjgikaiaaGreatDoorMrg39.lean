/-
  Own texts, several in one (Q4, Q5, Q6).
-/
import Derived.Test.YtbhjkddjgikaiaaGreatDoorMrg38
import Derived.Test.YtbhjkddjgikaiaaGreatDoorMrg34
import Derived.Deep.RegionLaw
namespace Go.Proofs.YtbhjkddjgikaiaaGreatDoor
open Go.RowKit
set_option linter.unusedVariables false
set_option linter.unusedSimpArgs false
theorem step_run {ops : Array Oper} {o : Oper} {a : Act} {K : Act → World → Prop} {Q : Exit → Act → World → Prop} {E : Prop} {W w' : World} {v' : Value} (hgd : o.guard = none) (s x : Operand) (T : TypeId)
    (ho : o.op = .call { callee := .builtin .append, args := #[s, x], argTypes := #[T, T] }) (vs vx : Value) (hs : a.eval s = vs) (hx : a.eval x = vx)
    (hr : (Builtin.append_ #[T, T] o.type #[vs, vx]).run Tryz.prog W = .ok v' w') (h : K (a.put o.dst v') w') :
    if Region.wanted o (yielded ops a.tmps) = true then Oper.wp Tryz.prog o a W K Q else E := by
  have hw : Region.wanted o (yielded ops a.tmps) = true := by simp [Region.wanted, hgd]
  rw [if_pos hw]
  unfold Oper.wp execOp
  simp only [ho, resolve, invoke, builtin, Sem.run_bind, Sem.run_pure, Result.andThen_ok, List.map_toArray, List.map_cons, List.map_nil, hs, hx, hr]
  exact h
theorem qneed_err (k : Nat) (x : List UInt8) (l : List Lx.Tk) (e : Nat × Nat) : qneed k x (l, some e) = (Lx.tk0, (l, some e)) := by
  unfold qneed isQ
  rw [if_neg (by simp)]
  rfl
theorem qneed_must (k : Nat) (x : List UInt8) (l : List Lx.Tk) : qneed k x (l, none) = match Sc.must k x l with
    | .ok (t, r) => (t, (r, none))
    | .error e => (Lx.tk0, (l, some e)) := by
  unfold qneed isQ Sc.must
  by_cases h : Sc.isN k x l = true
  · rw [if_pos (by simp [h]), if_pos h]
  · rw [if_neg (by simp [h]), if_neg h]
    rfl
/-- what op leaves -/
def opR (B g b ho pos : Nat) (n0 : Nat) (r : Except (Nat × Nat) (Sc.Op × List Lx.Tk)) (w' : World) : Prop :=
  ∃ (l' : List Lx.Tk) (er' : Option (Nat × Nat)) (oo : Sc.Op) (v1 v2 : Value), QsAt w' g b l' er' ∧ (Sc.Ended l' ∧ l'.length ≤ n0) ∧ Row w' ho (opc oo v1 v2).toArray 48 ∧ ((∃ p n c, v1 = .slice p n c) ∧ (∃ p n c, v2 = .slice p n c) ∧ ∀ q, (v1.ownBlock = some q ∨ v2.ownBlock = some q) → B ≤ q ∧ q < w'.heap.size) ∧
    match r with
    | .ok (o, l) => er' = none ∧ l' = l ∧ oo = { o with pos := pos } ∧ PtsAt w' v1 oo.parts ∧ NsAt .i32 w' v2 oo.starts
    | .error e => er' = some e
set_option maxHeartbeats 8000000 in
set_option maxRecDepth 100000 in
theorem op_7 (g b ho pos : Nat) (l : List Lx.Tk) (w : World) (h : QsAt w g b l none) (hE : Sc.Ended l) (hlen : l.length ≤ 70000) (R : Row w ho (opc (opK 7 pos) (.slice none 0 0) (.slice none 0 0)).toArray 48) (hgo : g ≠ ho) (hbo : b ≠ ho) :
    Calls Tryz.prog 57 #[.pointer (some ⟨g, 0, none⟩), .pointer (some ⟨ho, 0, none⟩)] w fun e w' => e = .returned (.tuple #[]) ∧ opR w.heap.size g b ho pos l.length (Sc.restOf 7 l) w' ∧ Only (two g ho) w w' := by
  obtain ⟨res, hres⟩ : ∃ r, r = Sc.restOf 7 l := ⟨_, rfl⟩
  rw [← hres]
  have HRES := Lib.hid hres
  have HE := Lib.hid hE
  have HL := Lib.hid (And.intro h.lt (And.intro (h.bl hE) (And.intro R.lt hlen)))
  have HGO := Lib.hid (And.intro hgo hbo)
  have k0 : w.cell? ⟨ho, 0, none⟩ = some (.int .i64 7) := R.cell 0
  have H0 := Lib.hid (And.intro R h)
  clear hres h hE R hlen hgo hbo
  go_enter Tryz.func57, Tryz.ntmps57
  go_wp2_with fail
  go_loopw [65] (fun zv wr => ∃ (ds : List Int) (lr : List Lx.Tk) (v : Value), wr.ownsRow w.heap.size 44 1 v ds.length (nv .i32 ds) ∧ Row wr ho #[.int .i64 7, .int .u32 0, .int .u32 0, .string ⟨#[]⟩, .slice none 0 0, v, .int .i32 0, .int .i64 (pos : Int)] 48 ∧ QsAt wr g b lr none ∧ Sc.Ended lr ∧ Sc.daysOf l = (ds ++ (Sc.daysOf lr).1, (Sc.daysOf lr).2) ∧ ds.length + lr.length = l.length ∧ Only (two g ho) w wr) (fun _ wr => l.length - lenOf ((wr.cell? ⟨ho, 5, none⟩).getD undef))
  case atStart =>
    have h := H0.out
    exact ⟨[], l, .slice none 0 0, ⟨rfl, .inl ⟨rfl, rfl⟩⟩, h.1, h.2, HE.out, rfl, by simp, Only.refl _ _⟩
  case round =>
    clear H0
    obtain ⟨ds, lr, v, how, R, hq, hE, hd, hn, O⟩ := hrel
    obtain ⟨pv, cv, rfl⟩ := own_slc how
    have c5 : wr.cell? ⟨ho, 5, none⟩ = some (.slice pv ds.length cv) := R.cell 5
    have HH := Lib.hid (And.intro how (And.intro R (And.intro hq (And.intro hE (And.intro hd (And.intro hn O))))))
    clear how R hq hE hd hn O
    go_wp2_with fail
    have his := is_any 3 [] g b lr none wr HH.out.2.2.1 HH.out.2.2.2.1
    cases hN : Sc.isN 3 [] lr
    · have e1 : isQ 3 [] lr none = false := by unfold isQ; rw [hN]; rfl
      rw [e1] at his
      have HN := Lib.hid hN
      clear hN e1
      refine his.mono ?_
      rintro _ wr ⟨rfl, rfl⟩
      clear his
      go_wp2_with fail
      have hh := HH.out
      refine (need_any 1 (Sc.link 7) (by omega) g b lr none wr hh.2.2.1 hh.2.2.2.1).mono ?_
      have hE1 := qneed_ended (k := 1) (x := Sc.link 7) (q := (lr, none)) (by omega) hh.2.2.2.1
      obtain ⟨r1, hr1⟩ : ∃ r, r = qneed 1 (Sc.link 7) (lr, none) := ⟨_, rfl⟩
      rw [← hr1] at hE1 ⊢
      obtain ⟨t1, l1, er1⟩ := r1
      rintro _ w2 ⟨rfl, hp2, O2⟩
      have H2 := Lib.hid (And.intro hp2 (And.intro O2 (And.intro hE1 hr1)))
      clear hh hE1 hr1 hp2 O2
      go_wp2_with fail
      refine (need_any 3 [] (by omega) g b l1 er1 w2 H2.out.1 H2.out.2.2.1.1).mono ?_
      have hE2 := qneed_ended (k := 3) (x := []) (q := (l1, er1)) (by omega) H2.out.2.2.1.1
      obtain ⟨r2, hr2⟩ : ∃ r, r = qneed 3 [] (l1, er1) := ⟨_, rfl⟩
      rw [← hr2] at hE2 ⊢
      obtain ⟨t2, l2, er2⟩ := r2
      rintro _ w3 ⟨rfl, hp3, O3⟩
      have hng : ¬ ho = g := fun e => HGO.out.1 e.symm
      have hh := HH.out
      have R3 := O3.row (H2.out.2.1.row hh.2.1 hng) hng
      have k6 : w3.cell? ⟨ho, 6, none⟩ = some (.int .i32 0) := R3.cell 6
      have z6 := R3.frozen 6
      have hf := tk_day t2
      have hgl := HL.out
      have how3 := own_only (own_only hh.1 H2.out.2.1 (fun k e => by have : k = g := e; omega)) O3 (fun k e => by have : k = g := e; omega)
      have OO : Only (two g ho) w w3 := (hh.2.2.2.2.2.2.trans (H2.out.2.1.mono fun k e => .inl e)).trans (O3.mono fun k e => .inl e)
      have H3 := Lib.hid (And.intro hp3 (And.intro R3 (And.intro how3 (And.intro OO (And.intro hE2 hr2)))))
      clear hh hng hgl hp3 O3 R3 how3 OO hE2 hr2
      unfold tk
      go_wp2_with fail
      have h3 := H3.out
      have h2 := H2.out
      have hh := HH.out
      have hgl := HL.out
      have SH := set_only w3 ho 6 (.int .i32 t2.day)
      have how6 := own_only h3.2.2.1 SH (fun k e => by have : k = ho := e; omega)
      have q6 := h3.1.only SH HGO.out.1 HGO.out.2
      have hlen := h3.2.2.2.2.1
      have hlen1 := h2.2.2.1.2
      have hn := hh.2.2.2.2.2.1
      first | go_end0 | refine bodyPost_ret (results_none rfl _ _ _) rfl ?_
      refine ⟨rfl, ⟨l2, er2, { Sc.op0 with kind := 7, starts := ds, fin := t2.day, pos := pos }, .slice none 0 0, .slice pv ds.length cv, q6, ⟨hlen.1, by have h1 := hlen.2; show l2.length ≤ l.length; have : l2.length ≤ l1.length := h1; have : l1.length ≤ lr.length := hlen1; omega⟩, h3.2.1.set 6 _, ⟨⟨_, _, _, rfl⟩, ⟨_, _, _, rfl⟩, fun q hq => by
        rcases hq with hq | hq
        · cases hq
        · exact own_fresh how6 q hq⟩, ?_⟩, h3.2.2.2.1.trans (SH.mono fun k e => .inr e)⟩
      have hdn := Sc.daysOf_no HN.out hh.2.2.2.1.ne
      have hd := hh.2.2.2.2.1
      rw [hdn] at hd
      have h1 := h2.2.2.2
      have hr2 := h3.2.2.2.2.2
      rw [qneed_must] at h1
      rw [HRES.out]
      unfold Sc.restOf
      rw [if_pos rfl, hd]
      dsimp only
      rcases hm : Sc.must 1 (Sc.link 7) lr with e | ⟨t, l1'⟩
      · rw [hm] at h1
        simp only [Prod.mk.injEq] at h1
        obtain ⟨_, rfl, rfl⟩ := h1
        rw [qneed_err] at hr2
        simp only [Prod.mk.injEq] at hr2
        exact hr2.2.2
      · rw [hm] at h1
        simp only [Prod.mk.injEq] at h1
        obtain ⟨_, rfl, rfl⟩ := h1
        rw [qneed_must] at hr2
        dsimp only
        rcases hm2 : Sc.must 3 [] l1 with e | ⟨t3, l3⟩
        · rw [hm2] at hr2
          simp only [Prod.mk.injEq] at hr2
          exact hr2.2.2
        · rw [hm2] at hr2
          simp only [Prod.mk.injEq] at hr2
          obtain ⟨rfl, rfl, rfl⟩ := hr2
          exact ⟨rfl, rfl, by simp, pts_no _, (NsAt.of_own how6).1⟩
    · have e1 : isQ 3 [] lr none = true := by unfold isQ; rw [hN]; rfl
      rw [e1] at his
      have HN := Lib.hid hN
      clear hN e1
      refine his.mono ?_
      rintro _ wr ⟨rfl, rfl⟩
      clear his
      have hne : qneed 3 [] (lr, none) = (Sc.hd lr, (lr.tail, none)) := by unfold qneed; rw [if_pos (by unfold isQ; rw [HN.out]; rfl)]
      have OD : Only (fun _ => False) wr wr.drew := (Only.refl _ wr).drew
      have hnd := need_any 3 [] (by omega) g b lr none wr.drew (HH.out.2.2.1.only OD (fun h => h) (fun h => h)) HH.out.2.2.2.1
      rw [hne] at hnd
      obtain ⟨t, ht⟩ : ∃ t, t = Sc.hd lr := ⟨_, rfl⟩
      rw [← ht] at hnd
      have HTT := Lib.hid ht
      have HND : Hid (Calls Tryz.prog 56 #[.pointer (some ⟨g, 0, none⟩), .int .i64 3, .string ⟨#[]⟩] wr.drew fun e w' => e = .returned (.agg #[.int .i64 (t.kind : Int), .string ⟨t.text.toArray⟩, .int .i64 t.num, .int .i32 t.day, .int .i64 (t.pos : Int)]) ∧ QsAt w' g b lr.tail none ∧ Only (· = g) wr.drew w') := Lib.hid hnd
      have hf := tk_day t
      have HHG : Hid (¬ ho = g) := Lib.hid fun e => HGO.out.1 e.symm
      have hkey : Calls Tryz.prog 56 #[.pointer (some ⟨g, 0, none⟩), .int .i64 3, .string ⟨#[]⟩] wr.drew fun e w2 => e = .returned (.agg #[.int .i64 (t.kind : Int), .string ⟨t.text.toArray⟩, .int .i64 t.num, .int .i32 t.day, .int .i64 (t.pos : Int)]) ∧ w2.cell? ⟨ho, 5, none⟩ = some (.slice pv ds.length cv) ∧ (w2.alloc (.cells #[.int .i32 t.day] 44)).cell? ⟨ho, 5, none⟩ = some (.slice pv ds.length cv) ∧ ∃ pv6 cv6 w6, (Builtin.append_ #[43, 43] 43 #[.slice pv ds.length cv, .slice (some ⟨w2.heap.size, 0, none⟩) 1 1]).run Tryz.prog (w2.alloc (.cells #[.int .i32 t.day] 44)) = .ok (.slice pv6 (ds.length + 1) cv6) w6 ∧ w6.cell? ⟨ho, 5, none⟩ = some (.slice pv ds.length cv) ∧ w6.frozen? ⟨ho, 5, none⟩ = false ∧
          Hid (w6.ownsRow w.heap.size 44 1 (.slice pv6 (ds.length + 1) cv6) (ds.length + 1) (nv .i32 (ds ++ [t.day])) ∧ Row w6 ho #[.int .i64 7, .int .u32 0, .int .u32 0, .string ⟨#[]⟩, .slice none 0 0, .slice pv ds.length cv, .int .i32 0, .int .i64 (pos : Int)] 48 ∧ QsAt w6 g b lr.tail none ∧ Only (two g ho) w w6) := by
        refine HND.out.mono ?_
        rintro _ w2 ⟨rfl, hp2, O2⟩
        have O2' : Only (· = g) wr w2 := ((Only.refl (· = g) wr).drew).trans O2
        have R2 := O2'.row HH.out.2.1 HHG.out
        have O3 : Only (two g ho) w w2 := HH.out.2.2.2.2.2.2.trans (O2'.mono fun k e => .inl e)
        have how2 := own_only HH.out.1 O2' (fun k e => by have : k = g := e; have := HL.out.1; omega)
        obtain ⟨v6, w6, hr6, ho6, hb6, hk6⟩ := append_day2 (w2.alloc (.cells #[.int .i32 t.day] 44)) w.heap.size 43 _ ds.length ds (own_alloc how2 _) w2.heap.size t.day (Row.new w2 _ _) (by have := HL.out.2.2.2; have := HH.out.2.2.2.2.2.1; omega) (O3.alloc (.cells #[.int .i32 t.day] 44)).size
        obtain ⟨pv6, cv6, rfl⟩ := own_slc ho6
        have R6 := hk6 _ _ _ (R2.alloc (.cells #[.int .i32 t.day] 44)) (by decide)
        have q6 : QsAt w6 g b lr.tail none := (hp2.only ((Only.refl (fun _ => False) w2).alloc (.cells #[.int .i32 t.day] 44)) (fun h => h) (fun h => h)).only (Only.of_base hb6) (by show ¬ w.heap.size ≤ g; have := HL.out.1; omega) (by show ¬ w.heap.size ≤ b; have := HL.out.2.1; omega)
        exact ⟨rfl, R2.cell 5, (R2.alloc _).cell 5, pv6, cv6, w6, hr6, R6.cell 5, R6.frozen 5, Lib.hid ⟨ho6, R6, q6, (O3.alloc _).then_below hb6⟩⟩
      have HKEY := Lib.hid hkey
      clear hnd hne OD ht hkey
      go_wp2_with fail
      go_region_law (first
        | (refine step_run rfl _ _ 43 rfl _ _ rfl rfl hr6 ?_)
        | (go_simp; go_at_call 56; refine HKEY.out.mono ?_; rintro _ w2 ⟨rfl, k52, k53, pv6, cv6, w6, hr6, k56, z56, H6⟩))
      all_goals
        try go_wp2_with fail
        have h6 := H6.out
        have hh := HH.out
        have hl := HL.out
        have SH := set_only w6 ho 5 (.slice pv6 (ds.length + 1) cv6)
        have hne := hh.2.2.2.1.ne
        have hdy := Sc.daysOf_yes HN.out hne
        rw [← HTT.out] at hdy
        have e5 : (w6.setCell ⟨ho, 5, none⟩ (.slice pv6 (ds.length + 1) cv6)).cell? ⟨ho, 5, none⟩ = some (.slice pv6 (ds.length + 1) cv6) := (h6.2.1.set 5 (.slice pv6 (ds.length + 1) cv6)).cell 5
        refine ⟨⟨ds ++ [t.day], lr.tail, .slice pv6 (ds.length + 1) cv6, ?_, h6.2.1.set 5 _, h6.2.2.1.only SH HGO.out.1 HGO.out.2, hh.2.2.2.1.tail (by have := Sc.isN_kind HN.out; omega), ?_, ?_, h6.2.2.2.trans (SH.mono fun k e => .inr e)⟩, ?_⟩
        · rw [List.length_append]
          exact own_only h6.1 SH (fun k e => by have : k = ho := e; omega)
        · rw [hh.2.2.2.2.1, hdy]
          simp
        · have := hh.2.2.2.2.2.1
          rw [List.length_append, List.length_tail]
          simp
          omega
        · rw [e5, c5]
          have := hh.2.2.2.2.2.1
          show l.length - (ds.length + 1) < l.length - ds.length
          omega
end Go.Proofs.YtbhjkddjgikaiaaGreatDoor

namespace Go.Proofs.YtbhjkddjgikaiaaGreatDoor
open Go.RowKit
set_option linter.unusedVariables false
set_option linter.unusedSimpArgs false
theorem qnum_err (lo hi : Int) (l : List Lx.Tk) (e : Nat × Nat) : qnum lo hi (l, some e) = (0, (l, some e)) := by
  have h1 : qmark lo hi (l, some e) = (l, some e) := by
    unfold qmark
    rw [if_neg (by unfold qbad isQ; simp)]
  unfold qnum
  rw [h1, qneed_err]
  rfl
theorem qnum_num (lo hi : Int) (l : List Lx.Tk) : qnum lo hi (l, none) = match Sc.num lo hi l with
    | .ok (n, r) => (n, (r, none))
    | .error e => (0, (l, some e)) := by
  by_cases hk : (Sc.hd l).kind = 2 ∧ ((Sc.hd l).num < lo ∨ hi < (Sc.hd l).num)
  · have hq : isQ 2 [] l none = true := by simp [isQ, Sc.isN, hk.1]
    have h1 : qmark lo hi (l, none) = (l, some ((Sc.hd l).pos, 5)) := by
      unfold qmark
      rw [if_pos ⟨hq, hk.2⟩]
    have h2 : Sc.num lo hi l = .error ((Sc.hd l).pos, 5) := by unfold Sc.num; rw [if_pos hk]; rfl
    unfold qnum
    rw [h1, qneed_err, h2]
    rfl
  · have h1 : qmark lo hi (l, none) = (l, none) := by
      unfold qmark
      rw [if_neg]
      intro hb
      have : (Sc.hd l).kind = 2 := by
        have hq := hb.1
        unfold isQ at hq
        simp at hq
        exact Sc.isN_kind hq
      exact hk ⟨this, hb.2⟩
    unfold qnum
    rw [h1, qneed_must]
    unfold Sc.num
    rw [if_neg hk]
    rcases Sc.must 2 [] l with e | ⟨t, r⟩ <;> rfl
set_option maxHeartbeats 8000000 in
set_option maxRecDepth 100000 in
theorem op_1 (g b ho pos : Nat) (l : List Lx.Tk) (w : World) (h : QsAt w g b l none) (hE : Sc.Ended l) (R : Row w ho (opc (opK 1 pos) (.slice none 0 0) (.slice none 0 0)).toArray 48) (hgo : g ≠ ho) (hbo : b ≠ ho) :
    Calls Tryz.prog 57 #[.pointer (some ⟨g, 0, none⟩), .pointer (some ⟨ho, 0, none⟩)] w fun e w' => e = .returned (.tuple #[]) ∧ opR w.heap.size g b ho pos l.length (Sc.restOf 1 l) w' ∧ Only (two g ho) w w' := by
  obtain ⟨res, hres⟩ : ∃ r, r = Sc.restOf 1 l := ⟨_, rfl⟩
  rw [← hres]
  have HRES := Lib.hid hres
  have HGO := Lib.hid (And.intro hgo hbo)
  have k0 : w.cell? ⟨ho, 0, none⟩ = some (.int .i64 1) := R.cell 0
  have H0 := Lib.hid (And.intro R (And.intro h (And.intro (Only.refl (two g ho) w) (And.intro hE (Nat.le_refl l.length)))))
  clear hres h hE R hgo hbo
  go_enter Tryz.func57, Tryz.ntmps57
  go_wp2_with fail
  refine (qnum_any 1 999999 g b l none w H0.out.2.1 H0.out.2.2.2.1).mono ?_
  have hE := qnum_ended (lo := 1) (hi := 999999) (q := (l, none)) H0.out.2.2.2.1
  obtain ⟨r, hr⟩ : ∃ r, r = qnum 1 999999 (l, none) := ⟨_, rfl⟩
  have hin := qnum_in (lo := 1) (hi := 999999) (q := (l, none))
  rw [← hr] at hE hin ⊢
  obtain ⟨n, l1, er1⟩ := r
  have hin : n = 0 ∨ (1 ≤ n ∧ n ≤ 999999) := hin
  rintro _ w1' ⟨rfl, hp, O⟩
  obtain ⟨m1, rfl⟩ : ∃ m : Nat, n = (m : Int) := ⟨n.toNat, by omega⟩
  have hu : IntKind.u32.wrap (m1 : Int) = (m1 : Int) := by rw [IntKind.wrap_u32]; omega
  have E1 := Lib.hid hr
  clear hin hr
  have RB := O.row H0.out.1 (show ¬ ho = g from fun e => HGO.out.1 e.symm)
  have k1 : w1'.cell? ⟨ho, 1, none⟩ = some (.int .u32 0) := RB.cell 1
  have z1 := RB.frozen 1
  have SH := set_only w1' ho 1 (.int .u32 (m1 : Int))
  have RA : Row (w1'.setCell ⟨ho, 1, none⟩ (.int .u32 (m1 : Int))) ho #[.int .i64 1, .int .u32 (m1 : Int), .int .u32 0, .string ⟨#[]⟩, .slice none 0 0, .slice none 0 0, .int .i32 0, .int .i64 (pos : Int)] 48 := RB.set 1 _
  have hpA := hp.only SH HGO.out.1 HGO.out.2
  have OA := (H0.out.2.2.1.trans (O.mono fun k e => .inl e)).trans (SH.mono (S' := two g ho) fun k e => .inr e)
  have H1 := Lib.hid (And.intro RA (And.intro hpA (And.intro OA (And.intro hE.1 (Nat.le_trans hE.2 H0.out.2.2.2.2)))))
  clear RA hpA OA SH RB hp O hE
  go_wp2_with fail
  generalize (w1'.setCell ⟨ho, 1, none⟩ (.int .u32 (m1 : Int))) = wA1 at *
  refine (need_any 4 [] (by omega) g b l1 er1 wA1 H1.out.2.1 H1.out.2.2.2.1).mono ?_
  have hE := qneed_ended (k := 4) (x := []) (q := (l1, er1)) (by omega) H1.out.2.2.2.1
  obtain ⟨r, hr⟩ : ∃ r, r = qneed 4 [] (l1, er1) := ⟨_, rfl⟩
  rw [← hr] at hE ⊢
  obtain ⟨t2, l2, er2⟩ := r
  rintro _ w2' ⟨rfl, hp, O⟩
  have E2 := Lib.hid hr
  clear hr
  have hf := tk_text t2
  have RB := O.row H1.out.1 (show ¬ ho = g from fun e => HGO.out.1 e.symm)
  have k3 : w2'.cell? ⟨ho, 3, none⟩ = some (.string ⟨#[]⟩) := RB.cell 3
  have z3 := RB.frozen 3
  have SH := set_only w2' ho 3 (.string ⟨t2.text.toArray⟩)
  have RA : Row (w2'.setCell ⟨ho, 3, none⟩ (.string ⟨t2.text.toArray⟩)) ho #[.int .i64 1, .int .u32 (m1 : Int), .int .u32 0, .string ⟨t2.text.toArray⟩, .slice none 0 0, .slice none 0 0, .int .i32 0, .int .i64 (pos : Int)] 48 := RB.set 3 _
  have hpA := hp.only SH HGO.out.1 HGO.out.2
  have OA := (H1.out.2.2.1.trans (O.mono fun k e => .inl e)).trans (SH.mono (S' := two g ho) fun k e => .inr e)
  have H2 := Lib.hid (And.intro RA (And.intro hpA (And.intro OA (And.intro hE.1 (Nat.le_trans hE.2 H1.out.2.2.2.2)))))
  clear RA hpA OA SH RB hp O hE
  unfold tk
  go_wp2_with fail
  have hF := H2.out
  first | go_end0 | refine bodyPost_ret (results_none rfl _ _ _) rfl ?_
  refine ⟨rfl, ⟨l2, er2, { Sc.op0 with kind := 1, fr := m1, name := t2.text, pos := pos }, .slice none 0 0, .slice none 0 0, hF.2.1, ⟨hF.2.2.2.1, hF.2.2.2.2⟩, hF.1, ⟨⟨_, _, _, rfl⟩, ⟨_, _, _, rfl⟩, fun q hq => by rcases hq with hq | hq <;> cases hq⟩, ?_⟩, hF.2.2.1⟩
  have h1 := E1.out
  have h2 := E2.out
  rw [qnum_num] at h1
  rw [HRES.out]
  unfold Sc.restOf
  rw [if_neg (by omega), show Sc.most 1 = 999999 from rfl]
  dsimp only
  rcases hm : Sc.num 1 999999 l with e | ⟨n, l1'⟩
  · rw [hm] at h1
    simp only [Prod.mk.injEq] at h1
    obtain ⟨_, rfl, rfl⟩ := h1
    rw [qneed_err] at h2
    simp only [Prod.mk.injEq] at h2
    exact h2.2.2
  · rw [hm] at h1
    simp only [Prod.mk.injEq] at h1
    obtain ⟨rfl, rfl, rfl⟩ := h1
    rw [qneed_must] at h2
    dsimp only
    rw [if_pos rfl]
    rcases hm2 : Sc.must 4 [] l1 with e | ⟨t3, l3⟩
    · rw [hm2] at h2
      simp only [Prod.mk.injEq] at h2
      exact h2.2.2
    · rw [hm2] at h2
      simp only [Prod.mk.injEq] at h2
      obtain ⟨rfl, rfl, rfl⟩ := h2
      exact ⟨rfl, rfl, by simp, pts_no _, ns_no _⟩
set_option maxHeartbeats 8000000 in
set_option maxRecDepth 100000 in
theorem op_0 (g b ho pos : Nat) (l : List Lx.Tk) (w : World) (h : QsAt w g b l none) (hE : Sc.Ended l) (R : Row w ho (opc (opK 0 pos) (.slice none 0 0) (.slice none 0 0)).toArray 48) (hgo : g ≠ ho) (hbo : b ≠ ho) :
    Calls Tryz.prog 57 #[.pointer (some ⟨g, 0, none⟩), .pointer (some ⟨ho, 0, none⟩)] w fun e w' => e = .returned (.tuple #[]) ∧ opR w.heap.size g b ho pos l.length (Sc.restOf 0 l) w' ∧ Only (two g ho) w w' := by
  obtain ⟨res, hres⟩ : ∃ r, r = Sc.restOf 0 l := ⟨_, rfl⟩
  rw [← hres]
  have HRES := Lib.hid hres
  have HGO := Lib.hid (And.intro hgo hbo)
  have k0 : w.cell? ⟨ho, 0, none⟩ = some (.int .i64 0) := R.cell 0
  have H0 := Lib.hid (And.intro R (And.intro h (And.intro (Only.refl (two g ho) w) (And.intro hE (Nat.le_refl l.length)))))
  clear hres h hE R hgo hbo
  go_enter Tryz.func57, Tryz.ntmps57
  go_wp2_with fail
  refine (qnum_any 1 999999 g b l none w H0.out.2.1 H0.out.2.2.2.1).mono ?_
  have hE := qnum_ended (lo := 1) (hi := 999999) (q := (l, none)) H0.out.2.2.2.1
  obtain ⟨r, hr⟩ : ∃ r, r = qnum 1 999999 (l, none) := ⟨_, rfl⟩
  have hin := qnum_in (lo := 1) (hi := 999999) (q := (l, none))
  rw [← hr] at hE hin ⊢
  obtain ⟨n, l1, er1⟩ := r
  have hin : n = 0 ∨ (1 ≤ n ∧ n ≤ 999999) := hin
  rintro _ w1' ⟨rfl, hp, O⟩
  obtain ⟨m1, rfl⟩ : ∃ m : Nat, n = (m : Int) := ⟨n.toNat, by omega⟩
  have hu : IntKind.u32.wrap (m1 : Int) = (m1 : Int) := by rw [IntKind.wrap_u32]; omega
  have E1 := Lib.hid hr
  clear hin hr
  have RB := O.row H0.out.1 (show ¬ ho = g from fun e => HGO.out.1 e.symm)
  have k1 : w1'.cell? ⟨ho, 1, none⟩ = some (.int .u32 0) := RB.cell 1
  have z1 := RB.frozen 1
  have SH := set_only w1' ho 1 (.int .u32 (m1 : Int))
  have RA : Row (w1'.setCell ⟨ho, 1, none⟩ (.int .u32 (m1 : Int))) ho #[.int .i64 0, .int .u32 (m1 : Int), .int .u32 0, .string ⟨#[]⟩, .slice none 0 0, .slice none 0 0, .int .i32 0, .int .i64 (pos : Int)] 48 := RB.set 1 _
  have hpA := hp.only SH HGO.out.1 HGO.out.2
  have OA := (H0.out.2.2.1.trans (O.mono fun k e => .inl e)).trans (SH.mono (S' := two g ho) fun k e => .inr e)
  have H1 := Lib.hid (And.intro RA (And.intro hpA (And.intro OA (And.intro hE.1 (Nat.le_trans hE.2 H0.out.2.2.2.2)))))
  clear RA hpA OA SH RB hp O hE
  go_wp2_with fail
  generalize (w1'.setCell ⟨ho, 1, none⟩ (.int .u32 (m1 : Int))) = wA1 at *
  refine (need_any 1 (Sc.link 0) (by omega) g b l1 er1 wA1 H1.out.2.1 H1.out.2.2.2.1).mono ?_
  have hE := qneed_ended (k := 1) (x := (Sc.link 0)) (q := (l1, er1)) (by omega) H1.out.2.2.2.1
  obtain ⟨r, hr⟩ : ∃ r, r = qneed 1 (Sc.link 0) (l1, er1) := ⟨_, rfl⟩
  rw [← hr] at hE ⊢
  obtain ⟨t2, l2, er2⟩ := r
  rintro _ w2' ⟨rfl, hp, O⟩
  have E2 := Lib.hid hr
  clear hr
  have RB := O.row H1.out.1 (show ¬ ho = g from fun e => HGO.out.1 e.symm)
  have OA := H1.out.2.2.1.trans (O.mono (S' := two g ho) fun k e => .inl e)
  have H2 := Lib.hid (And.intro RB (And.intro hp (And.intro OA (And.intro hE.1 (Nat.le_trans hE.2 H1.out.2.2.2.2)))))
  clear RB OA hp O hE
  unfold tk
  go_wp2_with fail
  refine (qnum_any 1 999999 g b l2 er2 w2' H2.out.2.1 H2.out.2.2.2.1).mono ?_
  have hE := qnum_ended (lo := 1) (hi := 999999) (q := (l2, er2)) H2.out.2.2.2.1
  obtain ⟨r, hr⟩ : ∃ r, r = qnum 1 999999 (l2, er2) := ⟨_, rfl⟩
  have hin := qnum_in (lo := 1) (hi := 999999) (q := (l2, er2))
  rw [← hr] at hE hin ⊢
  obtain ⟨n, l3, er3⟩ := r
  have hin : n = 0 ∨ (1 ≤ n ∧ n ≤ 999999) := hin
  rintro _ w3' ⟨rfl, hp, O⟩
  obtain ⟨m3, rfl⟩ : ∃ m : Nat, n = (m : Int) := ⟨n.toNat, by omega⟩
  have hu : IntKind.u32.wrap (m3 : Int) = (m3 : Int) := by rw [IntKind.wrap_u32]; omega
  have E3 := Lib.hid hr
  clear hin hr
  have RB := O.row H2.out.1 (show ¬ ho = g from fun e => HGO.out.1 e.symm)
  have k2 : w3'.cell? ⟨ho, 2, none⟩ = some (.int .u32 0) := RB.cell 2
  have z2 := RB.frozen 2
  have SH := set_only w3' ho 2 (.int .u32 (m3 : Int))
  have RA : Row (w3'.setCell ⟨ho, 2, none⟩ (.int .u32 (m3 : Int))) ho #[.int .i64 0, .int .u32 (m1 : Int), .int .u32 (m3 : Int), .string ⟨#[]⟩, .slice none 0 0, .slice none 0 0, .int .i32 0, .int .i64 (pos : Int)] 48 := RB.set 2 _
  have hpA := hp.only SH HGO.out.1 HGO.out.2
  have OA := (H2.out.2.2.1.trans (O.mono fun k e => .inl e)).trans (SH.mono (S' := two g ho) fun k e => .inr e)
  have H3 := Lib.hid (And.intro RA (And.intro hpA (And.intro OA (And.intro hE.1 (Nat.le_trans hE.2 H2.out.2.2.2.2)))))
  clear RA hpA OA SH RB hp O hE
  go_wp2_with fail
  have hF := H3.out
  first | go_end0 | refine bodyPost_ret (results_none rfl _ _ _) rfl ?_
  refine ⟨rfl, ⟨l3, er3, { Sc.op0 with kind := 0, fr := m1, too := m3, pos := pos }, .slice none 0 0, .slice none 0 0, hF.2.1, ⟨hF.2.2.2.1, hF.2.2.2.2⟩, hF.1, ⟨⟨_, _, _, rfl⟩, ⟨_, _, _, rfl⟩, fun q hq => by rcases hq with hq | hq <;> cases hq⟩, ?_⟩, hF.2.2.1⟩
  have h1 := E1.out
  have h2 := E2.out
  rw [qnum_num] at h1
  rw [HRES.out]
  unfold Sc.restOf
  rw [if_neg (by omega), show Sc.most 0 = 999999 from rfl, show Sc.least 0 = 1 from rfl]
  dsimp only
  rcases hm : Sc.num 1 999999 l with e | ⟨n, l1'⟩
  · have h3 := E3.out
    rw [hm] at h1
    simp only [Prod.mk.injEq] at h1
    obtain ⟨_, rfl, rfl⟩ := h1
    rw [qneed_err] at h2
    simp only [Prod.mk.injEq] at h2
    obtain ⟨_, rfl, rfl⟩ := h2
    rw [qnum_err] at h3
    simp only [Prod.mk.injEq] at h3
    exact h3.2.2
  · have h3 := E3.out
    rw [hm] at h1
    simp only [Prod.mk.injEq] at h1
    obtain ⟨rfl, rfl, rfl⟩ := h1
    rw [qneed_must] at h2
    dsimp only
    rw [if_neg (by omega)]
    rcases hm2 : Sc.must 1 (Sc.link 0) l1 with e | ⟨t3, l3'⟩
    · rw [hm2] at h2
      simp only [Prod.mk.injEq] at h2
      obtain ⟨_, rfl, rfl⟩ := h2
      rw [qnum_err] at h3
      simp only [Prod.mk.injEq] at h3
      exact h3.2.2
    · rw [hm2] at h2
      simp only [Prod.mk.injEq] at h2
      obtain ⟨_, rfl, rfl⟩ := h2
      rw [qnum_num] at h3
      dsimp only
      rw [if_neg (by omega)]
      rcases hm3 : Sc.num 1 999999 l2 with e | ⟨n3, l4'⟩
      · rw [hm3] at h3
        simp only [Prod.mk.injEq] at h3
        exact h3.2.2
      · rw [hm3] at h3
        simp only [Prod.mk.injEq] at h3
        obtain ⟨rfl, rfl, rfl⟩ := h3
        exact ⟨rfl, rfl, by simp, pts_no _, ns_no _⟩
set_option maxHeartbeats 8000000 in
set_option maxRecDepth 100000 in
theorem op_2 (g b ho pos : Nat) (l : List Lx.Tk) (w : World) (h : QsAt w g b l none) (hE : Sc.Ended l) (R : Row w ho (opc (opK 2 pos) (.slice none 0 0) (.slice none 0 0)).toArray 48) (hgo : g ≠ ho) (hbo : b ≠ ho) :
    Calls Tryz.prog 57 #[.pointer (some ⟨g, 0, none⟩), .pointer (some ⟨ho, 0, none⟩)] w fun e w' => e = .returned (.tuple #[]) ∧ opR w.heap.size g b ho pos l.length (Sc.restOf 2 l) w' ∧ Only (two g ho) w w' := by
  obtain ⟨res, hres⟩ : ∃ r, r = Sc.restOf 2 l := ⟨_, rfl⟩
  rw [← hres]
  have HRES := Lib.hid hres
  have HGO := Lib.hid (And.intro hgo hbo)
  have k0 : w.cell? ⟨ho, 0, none⟩ = some (.int .i64 2) := R.cell 0
  have H0 := Lib.hid (And.intro R (And.intro h (And.intro (Only.refl (two g ho) w) (And.intro hE (Nat.le_refl l.length)))))
  clear hres h hE R hgo hbo
  go_enter Tryz.func57, Tryz.ntmps57
  go_wp2_with fail
  refine (qnum_any 1 999999 g b l none w H0.out.2.1 H0.out.2.2.2.1).mono ?_
  have hE := qnum_ended (lo := 1) (hi := 999999) (q := (l, none)) H0.out.2.2.2.1
  obtain ⟨r, hr⟩ : ∃ r, r = qnum 1 999999 (l, none) := ⟨_, rfl⟩
  have hin := qnum_in (lo := 1) (hi := 999999) (q := (l, none))
  rw [← hr] at hE hin ⊢
  obtain ⟨n, l1, er1⟩ := r
  have hin : n = 0 ∨ (1 ≤ n ∧ n ≤ 999999) := hin
  rintro _ w1' ⟨rfl, hp, O⟩
  obtain ⟨m1, rfl⟩ : ∃ m : Nat, n = (m : Int) := ⟨n.toNat, by omega⟩
  have hu : IntKind.u32.wrap (m1 : Int) = (m1 : Int) := by rw [IntKind.wrap_u32]; omega
  have E1 := Lib.hid hr
  clear hin hr
  have RB := O.row H0.out.1 (show ¬ ho = g from fun e => HGO.out.1 e.symm)
  have k1 : w1'.cell? ⟨ho, 1, none⟩ = some (.int .u32 0) := RB.cell 1
  have z1 := RB.frozen 1
  have SH := set_only w1' ho 1 (.int .u32 (m1 : Int))
  have RA : Row (w1'.setCell ⟨ho, 1, none⟩ (.int .u32 (m1 : Int))) ho #[.int .i64 2, .int .u32 (m1 : Int), .int .u32 0, .string ⟨#[]⟩, .slice none 0 0, .slice none 0 0, .int .i32 0, .int .i64 (pos : Int)] 48 := RB.set 1 _
  have hpA := hp.only SH HGO.out.1 HGO.out.2
  have OA := (H0.out.2.2.1.trans (O.mono fun k e => .inl e)).trans (SH.mono (S' := two g ho) fun k e => .inr e)
  have H1 := Lib.hid (And.intro RA (And.intro hpA (And.intro OA (And.intro hE.1 (Nat.le_trans hE.2 H0.out.2.2.2.2)))))
  clear RA hpA OA SH RB hp O hE
  go_wp2_with fail
  generalize (w1'.setCell ⟨ho, 1, none⟩ (.int .u32 (m1 : Int))) = wA1 at *
  refine (need_any 1 (Sc.link 2) (by omega) g b l1 er1 wA1 H1.out.2.1 H1.out.2.2.2.1).mono ?_
  have hE := qneed_ended (k := 1) (x := (Sc.link 2)) (q := (l1, er1)) (by omega) H1.out.2.2.2.1
  obtain ⟨r, hr⟩ : ∃ r, r = qneed 1 (Sc.link 2) (l1, er1) := ⟨_, rfl⟩
  rw [← hr] at hE ⊢
  obtain ⟨t2, l2, er2⟩ := r
  rintro _ w2' ⟨rfl, hp, O⟩
  have E2 := Lib.hid hr
  clear hr
  have RB := O.row H1.out.1 (show ¬ ho = g from fun e => HGO.out.1 e.symm)
  have OA := H1.out.2.2.1.trans (O.mono (S' := two g ho) fun k e => .inl e)
  have H2 := Lib.hid (And.intro RB (And.intro hp (And.intro OA (And.intro hE.1 (Nat.le_trans hE.2 H1.out.2.2.2.2)))))
  clear RB OA hp O hE
  unfold tk
  go_wp2_with fail
  refine (qnum_any 0 999999 g b l2 er2 w2' H2.out.2.1 H2.out.2.2.2.1).mono ?_
  have hE := qnum_ended (lo := 0) (hi := 999999) (q := (l2, er2)) H2.out.2.2.2.1
  obtain ⟨r, hr⟩ : ∃ r, r = qnum 0 999999 (l2, er2) := ⟨_, rfl⟩
  have hin := qnum_in (lo := 0) (hi := 999999) (q := (l2, er2))
  rw [← hr] at hE hin ⊢
  obtain ⟨n, l3, er3⟩ := r
  have hin : n = 0 ∨ (0 ≤ n ∧ n ≤ 999999) := hin
  rintro _ w3' ⟨rfl, hp, O⟩
  obtain ⟨m3, rfl⟩ : ∃ m : Nat, n = (m : Int) := ⟨n.toNat, by omega⟩
  have hu : IntKind.u32.wrap (m3 : Int) = (m3 : Int) := by rw [IntKind.wrap_u32]; omega
  have E3 := Lib.hid hr
  clear hin hr
  have RB := O.row H2.out.1 (show ¬ ho = g from fun e => HGO.out.1 e.symm)
  have k2 : w3'.cell? ⟨ho, 2, none⟩ = some (.int .u32 0) := RB.cell 2
  have z2 := RB.frozen 2
  have SH := set_only w3' ho 2 (.int .u32 (m3 : Int))
  have RA : Row (w3'.setCell ⟨ho, 2, none⟩ (.int .u32 (m3 : Int))) ho #[.int .i64 2, .int .u32 (m1 : Int), .int .u32 (m3 : Int), .string ⟨#[]⟩, .slice none 0 0, .slice none 0 0, .int .i32 0, .int .i64 (pos : Int)] 48 := RB.set 2 _
  have hpA := hp.only SH HGO.out.1 HGO.out.2
  have OA := (H2.out.2.2.1.trans (O.mono fun k e => .inl e)).trans (SH.mono (S' := two g ho) fun k e => .inr e)
  have H3 := Lib.hid (And.intro RA (And.intro hpA (And.intro OA (And.intro hE.1 (Nat.le_trans hE.2 H2.out.2.2.2.2)))))
  clear RA hpA OA SH RB hp O hE
  go_wp2_with fail
  have hF := H3.out
  first | go_end0 | refine bodyPost_ret (results_none rfl _ _ _) rfl ?_
  refine ⟨rfl, ⟨l3, er3, { Sc.op0 with kind := 2, fr := m1, too := m3, pos := pos }, .slice none 0 0, .slice none 0 0, hF.2.1, ⟨hF.2.2.2.1, hF.2.2.2.2⟩, hF.1, ⟨⟨_, _, _, rfl⟩, ⟨_, _, _, rfl⟩, fun q hq => by rcases hq with hq | hq <;> cases hq⟩, ?_⟩, hF.2.2.1⟩
  have h1 := E1.out
  have h2 := E2.out
  rw [qnum_num] at h1
  rw [HRES.out]
  unfold Sc.restOf
  rw [if_neg (by omega), show Sc.most 2 = 999999 from rfl, show Sc.least 2 = 0 from rfl]
  dsimp only
  rcases hm : Sc.num 1 999999 l with e | ⟨n, l1'⟩
  · have h3 := E3.out
    rw [hm] at h1
    simp only [Prod.mk.injEq] at h1
    obtain ⟨_, rfl, rfl⟩ := h1
    rw [qneed_err] at h2
    simp only [Prod.mk.injEq] at h2
    obtain ⟨_, rfl, rfl⟩ := h2
    rw [qnum_err] at h3
    simp only [Prod.mk.injEq] at h3
    exact h3.2.2
  · have h3 := E3.out
    rw [hm] at h1
    simp only [Prod.mk.injEq] at h1
    obtain ⟨rfl, rfl, rfl⟩ := h1
    rw [qneed_must] at h2
    dsimp only
    rw [if_neg (by omega)]
    rcases hm2 : Sc.must 1 (Sc.link 2) l1 with e | ⟨t3, l3'⟩
    · rw [hm2] at h2
      simp only [Prod.mk.injEq] at h2
      obtain ⟨_, rfl, rfl⟩ := h2
      rw [qnum_err] at h3
      simp only [Prod.mk.injEq] at h3
      exact h3.2.2
    · rw [hm2] at h2
      simp only [Prod.mk.injEq] at h2
      obtain ⟨_, rfl, rfl⟩ := h2
      rw [qnum_num] at h3
      dsimp only
      rw [if_neg (by omega)]
      rcases hm3 : Sc.num 0 999999 l2 with e | ⟨n3, l4'⟩
      · rw [hm3] at h3
        simp only [Prod.mk.injEq] at h3
        exact h3.2.2
      · rw [hm3] at h3
        simp only [Prod.mk.injEq] at h3
        obtain ⟨rfl, rfl, rfl⟩ := h3
        exact ⟨rfl, rfl, by simp, pts_no _, ns_no _⟩
set_option maxHeartbeats 8000000 in
set_option maxRecDepth 100000 in
theorem op_3 (g b ho pos : Nat) (l : List Lx.Tk) (w : World) (h : QsAt w g b l none) (hE : Sc.Ended l) (R : Row w ho (opc (opK 3 pos) (.slice none 0 0) (.slice none 0 0)).toArray 48) (hgo : g ≠ ho) (hbo : b ≠ ho) :
    Calls Tryz.prog 57 #[.pointer (some ⟨g, 0, none⟩), .pointer (some ⟨ho, 0, none⟩)] w fun e w' => e = .returned (.tuple #[]) ∧ opR w.heap.size g b ho pos l.length (Sc.restOf 3 l) w' ∧ Only (two g ho) w w' := by
  obtain ⟨res, hres⟩ : ∃ r, r = Sc.restOf 3 l := ⟨_, rfl⟩
  rw [← hres]
  have HRES := Lib.hid hres
  have HGO := Lib.hid (And.intro hgo hbo)
  have k0 : w.cell? ⟨ho, 0, none⟩ = some (.int .i64 3) := R.cell 0
  have H0 := Lib.hid (And.intro R (And.intro h (And.intro (Only.refl (two g ho) w) (And.intro hE (Nat.le_refl l.length)))))
  clear hres h hE R hgo hbo
  go_enter Tryz.func57, Tryz.ntmps57
  go_wp2_with fail
  refine (qnum_any 1 999999 g b l none w H0.out.2.1 H0.out.2.2.2.1).mono ?_
  have hE := qnum_ended (lo := 1) (hi := 999999) (q := (l, none)) H0.out.2.2.2.1
  obtain ⟨r, hr⟩ : ∃ r, r = qnum 1 999999 (l, none) := ⟨_, rfl⟩
  have hin := qnum_in (lo := 1) (hi := 999999) (q := (l, none))
  rw [← hr] at hE hin ⊢
  obtain ⟨n, l1, er1⟩ := r
  have hin : n = 0 ∨ (1 ≤ n ∧ n ≤ 999999) := hin
  rintro _ w1' ⟨rfl, hp, O⟩
  obtain ⟨m1, rfl⟩ : ∃ m : Nat, n = (m : Int) := ⟨n.toNat, by omega⟩
  have hu : IntKind.u32.wrap (m1 : Int) = (m1 : Int) := by rw [IntKind.wrap_u32]; omega
  have E1 := Lib.hid hr
  clear hin hr
  have RB := O.row H0.out.1 (show ¬ ho = g from fun e => HGO.out.1 e.symm)
  have k1 : w1'.cell? ⟨ho, 1, none⟩ = some (.int .u32 0) := RB.cell 1
  have z1 := RB.frozen 1
  have SH := set_only w1' ho 1 (.int .u32 (m1 : Int))
  have RA : Row (w1'.setCell ⟨ho, 1, none⟩ (.int .u32 (m1 : Int))) ho #[.int .i64 3, .int .u32 (m1 : Int), .int .u32 0, .string ⟨#[]⟩, .slice none 0 0, .slice none 0 0, .int .i32 0, .int .i64 (pos : Int)] 48 := RB.set 1 _
  have hpA := hp.only SH HGO.out.1 HGO.out.2
  have OA := (H0.out.2.2.1.trans (O.mono fun k e => .inl e)).trans (SH.mono (S' := two g ho) fun k e => .inr e)
  have H1 := Lib.hid (And.intro RA (And.intro hpA (And.intro OA (And.intro hE.1 (Nat.le_trans hE.2 H0.out.2.2.2.2)))))
  clear RA hpA OA SH RB hp O hE
  go_wp2_with fail
  generalize (w1'.setCell ⟨ho, 1, none⟩ (.int .u32 (m1 : Int))) = wA1 at *
  refine (need_any 1 (Sc.link 3) (by omega) g b l1 er1 wA1 H1.out.2.1 H1.out.2.2.2.1).mono ?_
  have hE := qneed_ended (k := 1) (x := (Sc.link 3)) (q := (l1, er1)) (by omega) H1.out.2.2.2.1
  obtain ⟨r, hr⟩ : ∃ r, r = qneed 1 (Sc.link 3) (l1, er1) := ⟨_, rfl⟩
  rw [← hr] at hE ⊢
  obtain ⟨t2, l2, er2⟩ := r
  rintro _ w2' ⟨rfl, hp, O⟩
  have E2 := Lib.hid hr
  clear hr
  have RB := O.row H1.out.1 (show ¬ ho = g from fun e => HGO.out.1 e.symm)
  have OA := H1.out.2.2.1.trans (O.mono (S' := two g ho) fun k e => .inl e)
  have H2 := Lib.hid (And.intro RB (And.intro hp (And.intro OA (And.intro hE.1 (Nat.le_trans hE.2 H1.out.2.2.2.2)))))
  clear RB OA hp O hE
  unfold tk
  go_wp2_with fail
  refine (qnum_any 1 999999 g b l2 er2 w2' H2.out.2.1 H2.out.2.2.2.1).mono ?_
  have hE := qnum_ended (lo := 1) (hi := 999999) (q := (l2, er2)) H2.out.2.2.2.1
  obtain ⟨r, hr⟩ : ∃ r, r = qnum 1 999999 (l2, er2) := ⟨_, rfl⟩
  have hin := qnum_in (lo := 1) (hi := 999999) (q := (l2, er2))
  rw [← hr] at hE hin ⊢
  obtain ⟨n, l3, er3⟩ := r
  have hin : n = 0 ∨ (1 ≤ n ∧ n ≤ 999999) := hin
  rintro _ w3' ⟨rfl, hp, O⟩
  obtain ⟨m3, rfl⟩ : ∃ m : Nat, n = (m : Int) := ⟨n.toNat, by omega⟩
  have hu : IntKind.u32.wrap (m3 : Int) = (m3 : Int) := by rw [IntKind.wrap_u32]; omega
  have E3 := Lib.hid hr
  clear hin hr
  have RB := O.row H2.out.1 (show ¬ ho = g from fun e => HGO.out.1 e.symm)
  have k2 : w3'.cell? ⟨ho, 2, none⟩ = some (.int .u32 0) := RB.cell 2
  have z2 := RB.frozen 2
  have SH := set_only w3' ho 2 (.int .u32 (m3 : Int))
  have RA : Row (w3'.setCell ⟨ho, 2, none⟩ (.int .u32 (m3 : Int))) ho #[.int .i64 3, .int .u32 (m1 : Int), .int .u32 (m3 : Int), .string ⟨#[]⟩, .slice none 0 0, .slice none 0 0, .int .i32 0, .int .i64 (pos : Int)] 48 := RB.set 2 _
  have hpA := hp.only SH HGO.out.1 HGO.out.2
  have OA := (H2.out.2.2.1.trans (O.mono fun k e => .inl e)).trans (SH.mono (S' := two g ho) fun k e => .inr e)
  have H3 := Lib.hid (And.intro RA (And.intro hpA (And.intro OA (And.intro hE.1 (Nat.le_trans hE.2 H2.out.2.2.2.2)))))
  clear RA hpA OA SH RB hp O hE
  go_wp2_with fail
  have hF := H3.out
  first | go_end0 | refine bodyPost_ret (results_none rfl _ _ _) rfl ?_
  refine ⟨rfl, ⟨l3, er3, { Sc.op0 with kind := 3, fr := m1, too := m3, pos := pos }, .slice none 0 0, .slice none 0 0, hF.2.1, ⟨hF.2.2.2.1, hF.2.2.2.2⟩, hF.1, ⟨⟨_, _, _, rfl⟩, ⟨_, _, _, rfl⟩, fun q hq => by rcases hq with hq | hq <;> cases hq⟩, ?_⟩, hF.2.2.1⟩
  have h1 := E1.out
  have h2 := E2.out
  rw [qnum_num] at h1
  rw [HRES.out]
  unfold Sc.restOf
  rw [if_neg (by omega), show Sc.most 3 = 999999 from rfl, show Sc.least 3 = 1 from rfl]
  dsimp only
  rcases hm : Sc.num 1 999999 l with e | ⟨n, l1'⟩
  · have h3 := E3.out
    rw [hm] at h1
    simp only [Prod.mk.injEq] at h1
    obtain ⟨_, rfl, rfl⟩ := h1
    rw [qneed_err] at h2
    simp only [Prod.mk.injEq] at h2
    obtain ⟨_, rfl, rfl⟩ := h2
    rw [qnum_err] at h3
    simp only [Prod.mk.injEq] at h3
    exact h3.2.2
  · have h3 := E3.out
    rw [hm] at h1
    simp only [Prod.mk.injEq] at h1
    obtain ⟨rfl, rfl, rfl⟩ := h1
    rw [qneed_must] at h2
    dsimp only
    rw [if_neg (by omega)]
    rcases hm2 : Sc.must 1 (Sc.link 3) l1 with e | ⟨t3, l3'⟩
    · rw [hm2] at h2
      simp only [Prod.mk.injEq] at h2
      obtain ⟨_, rfl, rfl⟩ := h2
      rw [qnum_err] at h3
      simp only [Prod.mk.injEq] at h3
      exact h3.2.2
    · rw [hm2] at h2
      simp only [Prod.mk.injEq] at h2
      obtain ⟨_, rfl, rfl⟩ := h2
      rw [qnum_num] at h3
      dsimp only
      rw [if_neg (by omega)]
      rcases hm3 : Sc.num 1 999999 l2 with e | ⟨n3, l4'⟩
      · rw [hm3] at h3
        simp only [Prod.mk.injEq] at h3
        exact h3.2.2
      · rw [hm3] at h3
        simp only [Prod.mk.injEq] at h3
        obtain ⟨rfl, rfl, rfl⟩ := h3
        exact ⟨rfl, rfl, by simp, pts_no _, ns_no _⟩
set_option maxHeartbeats 8000000 in
set_option maxRecDepth 100000 in
theorem op_5 (g b ho pos : Nat) (l : List Lx.Tk) (w : World) (h : QsAt w g b l none) (hE : Sc.Ended l) (R : Row w ho (opc (opK 5 pos) (.slice none 0 0) (.slice none 0 0)).toArray 48) (hgo : g ≠ ho) (hbo : b ≠ ho) :
    Calls Tryz.prog 57 #[.pointer (some ⟨g, 0, none⟩), .pointer (some ⟨ho, 0, none⟩)] w fun e w' => e = .returned (.tuple #[]) ∧ opR w.heap.size g b ho pos l.length (Sc.restOf 5 l) w' ∧ Only (two g ho) w w' := by
  obtain ⟨res, hres⟩ : ∃ r, r = Sc.restOf 5 l := ⟨_, rfl⟩
  rw [← hres]
  have HRES := Lib.hid hres
  have HGO := Lib.hid (And.intro hgo hbo)
  have k0 : w.cell? ⟨ho, 0, none⟩ = some (.int .i64 5) := R.cell 0
  have H0 := Lib.hid (And.intro R (And.intro h (And.intro (Only.refl (two g ho) w) (And.intro hE (Nat.le_refl l.length)))))
  clear hres h hE R hgo hbo
  go_enter Tryz.func57, Tryz.ntmps57
  go_wp2_with fail
  refine (qnum_any 1 999 g b l none w H0.out.2.1 H0.out.2.2.2.1).mono ?_
  have hE := qnum_ended (lo := 1) (hi := 999) (q := (l, none)) H0.out.2.2.2.1
  obtain ⟨r, hr⟩ : ∃ r, r = qnum 1 999 (l, none) := ⟨_, rfl⟩
  have hin := qnum_in (lo := 1) (hi := 999) (q := (l, none))
  rw [← hr] at hE hin ⊢
  obtain ⟨n, l1, er1⟩ := r
  have hin : n = 0 ∨ (1 ≤ n ∧ n ≤ 999) := hin
  rintro _ w1' ⟨rfl, hp, O⟩
  obtain ⟨m1, rfl⟩ : ∃ m : Nat, n = (m : Int) := ⟨n.toNat, by omega⟩
  have hu : IntKind.u32.wrap (m1 : Int) = (m1 : Int) := by rw [IntKind.wrap_u32]; omega
  have E1 := Lib.hid hr
  clear hin hr
  have RB := O.row H0.out.1 (show ¬ ho = g from fun e => HGO.out.1 e.symm)
  have k1 : w1'.cell? ⟨ho, 1, none⟩ = some (.int .u32 0) := RB.cell 1
  have z1 := RB.frozen 1
  have SH := set_only w1' ho 1 (.int .u32 (m1 : Int))
  have RA : Row (w1'.setCell ⟨ho, 1, none⟩ (.int .u32 (m1 : Int))) ho #[.int .i64 5, .int .u32 (m1 : Int), .int .u32 0, .string ⟨#[]⟩, .slice none 0 0, .slice none 0 0, .int .i32 0, .int .i64 (pos : Int)] 48 := RB.set 1 _
  have hpA := hp.only SH HGO.out.1 HGO.out.2
  have OA := (H0.out.2.2.1.trans (O.mono fun k e => .inl e)).trans (SH.mono (S' := two g ho) fun k e => .inr e)
  have H1 := Lib.hid (And.intro RA (And.intro hpA (And.intro OA (And.intro hE.1 (Nat.le_trans hE.2 H0.out.2.2.2.2)))))
  clear RA hpA OA SH RB hp O hE
  go_wp2_with fail
  generalize (w1'.setCell ⟨ho, 1, none⟩ (.int .u32 (m1 : Int))) = wA1 at *
  refine (need_any 1 (Sc.link 5) (by omega) g b l1 er1 wA1 H1.out.2.1 H1.out.2.2.2.1).mono ?_
  have hE := qneed_ended (k := 1) (x := (Sc.link 5)) (q := (l1, er1)) (by omega) H1.out.2.2.2.1
  obtain ⟨r, hr⟩ : ∃ r, r = qneed 1 (Sc.link 5) (l1, er1) := ⟨_, rfl⟩
  rw [← hr] at hE ⊢
  obtain ⟨t2, l2, er2⟩ := r
  rintro _ w2' ⟨rfl, hp, O⟩
  have E2 := Lib.hid hr
  clear hr
  have RB := O.row H1.out.1 (show ¬ ho = g from fun e => HGO.out.1 e.symm)
  have OA := H1.out.2.2.1.trans (O.mono (S' := two g ho) fun k e => .inl e)
  have H2 := Lib.hid (And.intro RB (And.intro hp (And.intro OA (And.intro hE.1 (Nat.le_trans hE.2 H1.out.2.2.2.2)))))
  clear RB OA hp O hE
  unfold tk
  go_wp2_with fail
  refine (qnum_any 1 999 g b l2 er2 w2' H2.out.2.1 H2.out.2.2.2.1).mono ?_
  have hE := qnum_ended (lo := 1) (hi := 999) (q := (l2, er2)) H2.out.2.2.2.1
  obtain ⟨r, hr⟩ : ∃ r, r = qnum 1 999 (l2, er2) := ⟨_, rfl⟩
  have hin := qnum_in (lo := 1) (hi := 999) (q := (l2, er2))
  rw [← hr] at hE hin ⊢
  obtain ⟨n, l3, er3⟩ := r
  have hin : n = 0 ∨ (1 ≤ n ∧ n ≤ 999) := hin
  rintro _ w3' ⟨rfl, hp, O⟩
  obtain ⟨m3, rfl⟩ : ∃ m : Nat, n = (m : Int) := ⟨n.toNat, by omega⟩
  have hu : IntKind.u32.wrap (m3 : Int) = (m3 : Int) := by rw [IntKind.wrap_u32]; omega
  have E3 := Lib.hid hr
  clear hin hr
  have RB := O.row H2.out.1 (show ¬ ho = g from fun e => HGO.out.1 e.symm)
  have k2 : w3'.cell? ⟨ho, 2, none⟩ = some (.int .u32 0) := RB.cell 2
  have z2 := RB.frozen 2
  have SH := set_only w3' ho 2 (.int .u32 (m3 : Int))
  have RA : Row (w3'.setCell ⟨ho, 2, none⟩ (.int .u32 (m3 : Int))) ho #[.int .i64 5, .int .u32 (m1 : Int), .int .u32 (m3 : Int), .string ⟨#[]⟩, .slice none 0 0, .slice none 0 0, .int .i32 0, .int .i64 (pos : Int)] 48 := RB.set 2 _
  have hpA := hp.only SH HGO.out.1 HGO.out.2
  have OA := (H2.out.2.2.1.trans (O.mono fun k e => .inl e)).trans (SH.mono (S' := two g ho) fun k e => .inr e)
  have H3 := Lib.hid (And.intro RA (And.intro hpA (And.intro OA (And.intro hE.1 (Nat.le_trans hE.2 H2.out.2.2.2.2)))))
  clear RA hpA OA SH RB hp O hE
  go_wp2_with fail
  have hF := H3.out
  first | go_end0 | refine bodyPost_ret (results_none rfl _ _ _) rfl ?_
  refine ⟨rfl, ⟨l3, er3, { Sc.op0 with kind := 5, fr := m1, too := m3, pos := pos }, .slice none 0 0, .slice none 0 0, hF.2.1, ⟨hF.2.2.2.1, hF.2.2.2.2⟩, hF.1, ⟨⟨_, _, _, rfl⟩, ⟨_, _, _, rfl⟩, fun q hq => by rcases hq with hq | hq <;> cases hq⟩, ?_⟩, hF.2.2.1⟩
  have h1 := E1.out
  have h2 := E2.out
  rw [qnum_num] at h1
  rw [HRES.out]
  unfold Sc.restOf
  rw [if_neg (by omega), show Sc.most 5 = 999 from rfl, show Sc.least 5 = 1 from rfl]
  dsimp only
  rcases hm : Sc.num 1 999 l with e | ⟨n, l1'⟩
  · have h3 := E3.out
    rw [hm] at h1
    simp only [Prod.mk.injEq] at h1
    obtain ⟨_, rfl, rfl⟩ := h1
    rw [qneed_err] at h2
    simp only [Prod.mk.injEq] at h2
    obtain ⟨_, rfl, rfl⟩ := h2
    rw [qnum_err] at h3
    simp only [Prod.mk.injEq] at h3
    exact h3.2.2
  · have h3 := E3.out
    rw [hm] at h1
    simp only [Prod.mk.injEq] at h1
    obtain ⟨rfl, rfl, rfl⟩ := h1
    rw [qneed_must] at h2
    dsimp only
    rw [if_neg (by omega)]
    rcases hm2 : Sc.must 1 (Sc.link 5) l1 with e | ⟨t3, l3'⟩
    · rw [hm2] at h2
      simp only [Prod.mk.injEq] at h2
      obtain ⟨_, rfl, rfl⟩ := h2
      rw [qnum_err] at h3
      simp only [Prod.mk.injEq] at h3
      exact h3.2.2
    · rw [hm2] at h2
      simp only [Prod.mk.injEq] at h2
      obtain ⟨_, rfl, rfl⟩ := h2
      rw [qnum_num] at h3
      dsimp only
      rw [if_neg (by omega)]
      rcases hm3 : Sc.num 1 999 l2 with e | ⟨n3, l4'⟩
      · rw [hm3] at h3
        simp only [Prod.mk.injEq] at h3
        exact h3.2.2
      · rw [hm3] at h3
        simp only [Prod.mk.injEq] at h3
        obtain ⟨rfl, rfl, rfl⟩ := h3
        exact ⟨rfl, rfl, by simp, pts_no _, ns_no _⟩
set_option maxHeartbeats 8000000 in
set_option maxRecDepth 100000 in
theorem op_6 (g b ho pos : Nat) (l : List Lx.Tk) (w : World) (h : QsAt w g b l none) (hE : Sc.Ended l) (R : Row w ho (opc (opK 6 pos) (.slice none 0 0) (.slice none 0 0)).toArray 48) (hgo : g ≠ ho) (hbo : b ≠ ho) :
    Calls Tryz.prog 57 #[.pointer (some ⟨g, 0, none⟩), .pointer (some ⟨ho, 0, none⟩)] w fun e w' => e = .returned (.tuple #[]) ∧ opR w.heap.size g b ho pos l.length (Sc.restOf 6 l) w' ∧ Only (two g ho) w w' := by
  obtain ⟨res, hres⟩ : ∃ r, r = Sc.restOf 6 l := ⟨_, rfl⟩
  rw [← hres]
  have HRES := Lib.hid hres
  have HGO := Lib.hid (And.intro hgo hbo)
  have k0 : w.cell? ⟨ho, 0, none⟩ = some (.int .i64 6) := R.cell 0
  have H0 := Lib.hid (And.intro R (And.intro h (And.intro (Only.refl (two g ho) w) (And.intro hE (Nat.le_refl l.length)))))
  clear hres h hE R hgo hbo
  go_enter Tryz.func57, Tryz.ntmps57
  go_wp2_with fail
  refine (qnum_any 1 999 g b l none w H0.out.2.1 H0.out.2.2.2.1).mono ?_
  have hE := qnum_ended (lo := 1) (hi := 999) (q := (l, none)) H0.out.2.2.2.1
  obtain ⟨r, hr⟩ : ∃ r, r = qnum 1 999 (l, none) := ⟨_, rfl⟩
  have hin := qnum_in (lo := 1) (hi := 999) (q := (l, none))
  rw [← hr] at hE hin ⊢
  obtain ⟨n, l1, er1⟩ := r
  have hin : n = 0 ∨ (1 ≤ n ∧ n ≤ 999) := hin
  rintro _ w1' ⟨rfl, hp, O⟩
  obtain ⟨m1, rfl⟩ : ∃ m : Nat, n = (m : Int) := ⟨n.toNat, by omega⟩
  have hu : IntKind.u32.wrap (m1 : Int) = (m1 : Int) := by rw [IntKind.wrap_u32]; omega
  have E1 := Lib.hid hr
  clear hin hr
  have RB := O.row H0.out.1 (show ¬ ho = g from fun e => HGO.out.1 e.symm)
  have k1 : w1'.cell? ⟨ho, 1, none⟩ = some (.int .u32 0) := RB.cell 1
  have z1 := RB.frozen 1
  have SH := set_only w1' ho 1 (.int .u32 (m1 : Int))
  have RA : Row (w1'.setCell ⟨ho, 1, none⟩ (.int .u32 (m1 : Int))) ho #[.int .i64 6, .int .u32 (m1 : Int), .int .u32 0, .string ⟨#[]⟩, .slice none 0 0, .slice none 0 0, .int .i32 0, .int .i64 (pos : Int)] 48 := RB.set 1 _
  have hpA := hp.only SH HGO.out.1 HGO.out.2
  have OA := (H0.out.2.2.1.trans (O.mono fun k e => .inl e)).trans (SH.mono (S' := two g ho) fun k e => .inr e)
  have H1 := Lib.hid (And.intro RA (And.intro hpA (And.intro OA (And.intro hE.1 (Nat.le_trans hE.2 H0.out.2.2.2.2)))))
  clear RA hpA OA SH RB hp O hE
  go_wp2_with fail
  generalize (w1'.setCell ⟨ho, 1, none⟩ (.int .u32 (m1 : Int))) = wA1 at *
  refine (need_any 1 (Sc.link 6) (by omega) g b l1 er1 wA1 H1.out.2.1 H1.out.2.2.2.1).mono ?_
  have hE := qneed_ended (k := 1) (x := (Sc.link 6)) (q := (l1, er1)) (by omega) H1.out.2.2.2.1
  obtain ⟨r, hr⟩ : ∃ r, r = qneed 1 (Sc.link 6) (l1, er1) := ⟨_, rfl⟩
  rw [← hr] at hE ⊢
  obtain ⟨t2, l2, er2⟩ := r
  rintro _ w2' ⟨rfl, hp, O⟩
  have E2 := Lib.hid hr
  clear hr
  have RB := O.row H1.out.1 (show ¬ ho = g from fun e => HGO.out.1 e.symm)
  have OA := H1.out.2.2.1.trans (O.mono (S' := two g ho) fun k e => .inl e)
  have H2 := Lib.hid (And.intro RB (And.intro hp (And.intro OA (And.intro hE.1 (Nat.le_trans hE.2 H1.out.2.2.2.2)))))
  clear RB OA hp O hE
  unfold tk
  go_wp2_with fail
  refine (qnum_any 1 999 g b l2 er2 w2' H2.out.2.1 H2.out.2.2.2.1).mono ?_
  have hE := qnum_ended (lo := 1) (hi := 999) (q := (l2, er2)) H2.out.2.2.2.1
  obtain ⟨r, hr⟩ : ∃ r, r = qnum 1 999 (l2, er2) := ⟨_, rfl⟩
  have hin := qnum_in (lo := 1) (hi := 999) (q := (l2, er2))
  rw [← hr] at hE hin ⊢
  obtain ⟨n, l3, er3⟩ := r
  have hin : n = 0 ∨ (1 ≤ n ∧ n ≤ 999) := hin
  rintro _ w3' ⟨rfl, hp, O⟩
  obtain ⟨m3, rfl⟩ : ∃ m : Nat, n = (m : Int) := ⟨n.toNat, by omega⟩
  have hu : IntKind.u32.wrap (m3 : Int) = (m3 : Int) := by rw [IntKind.wrap_u32]; omega
  have E3 := Lib.hid hr
  clear hin hr
  have RB := O.row H2.out.1 (show ¬ ho = g from fun e => HGO.out.1 e.symm)
  have k2 : w3'.cell? ⟨ho, 2, none⟩ = some (.int .u32 0) := RB.cell 2
  have z2 := RB.frozen 2
  have SH := set_only w3' ho 2 (.int .u32 (m3 : Int))
  have RA : Row (w3'.setCell ⟨ho, 2, none⟩ (.int .u32 (m3 : Int))) ho #[.int .i64 6, .int .u32 (m1 : Int), .int .u32 (m3 : Int), .string ⟨#[]⟩, .slice none 0 0, .slice none 0 0, .int .i32 0, .int .i64 (pos : Int)] 48 := RB.set 2 _
  have hpA := hp.only SH HGO.out.1 HGO.out.2
  have OA := (H2.out.2.2.1.trans (O.mono fun k e => .inl e)).trans (SH.mono (S' := two g ho) fun k e => .inr e)
  have H3 := Lib.hid (And.intro RA (And.intro hpA (And.intro OA (And.intro hE.1 (Nat.le_trans hE.2 H2.out.2.2.2.2)))))
  clear RA hpA OA SH RB hp O hE
  go_wp2_with fail
  have hF := H3.out
  first | go_end0 | refine bodyPost_ret (results_none rfl _ _ _) rfl ?_
  refine ⟨rfl, ⟨l3, er3, { Sc.op0 with kind := 6, fr := m1, too := m3, pos := pos }, .slice none 0 0, .slice none 0 0, hF.2.1, ⟨hF.2.2.2.1, hF.2.2.2.2⟩, hF.1, ⟨⟨_, _, _, rfl⟩, ⟨_, _, _, rfl⟩, fun q hq => by rcases hq with hq | hq <;> cases hq⟩, ?_⟩, hF.2.2.1⟩
  have h1 := E1.out
  have h2 := E2.out
  rw [qnum_num] at h1
  rw [HRES.out]
  unfold Sc.restOf
  rw [if_neg (by omega), show Sc.most 6 = 999 from rfl, show Sc.least 6 = 1 from rfl]
  dsimp only
  rcases hm : Sc.num 1 999 l with e | ⟨n, l1'⟩
  · have h3 := E3.out
    rw [hm] at h1
    simp only [Prod.mk.injEq] at h1
    obtain ⟨_, rfl, rfl⟩ := h1
    rw [qneed_err] at h2
    simp only [Prod.mk.injEq] at h2
    obtain ⟨_, rfl, rfl⟩ := h2
    rw [qnum_err] at h3
    simp only [Prod.mk.injEq] at h3
    exact h3.2.2
  · have h3 := E3.out
    rw [hm] at h1
    simp only [Prod.mk.injEq] at h1
    obtain ⟨rfl, rfl, rfl⟩ := h1
    rw [qneed_must] at h2
    dsimp only
    rw [if_neg (by omega)]
    rcases hm2 : Sc.must 1 (Sc.link 6) l1 with e | ⟨t3, l3'⟩
    · rw [hm2] at h2
      simp only [Prod.mk.injEq] at h2
      obtain ⟨_, rfl, rfl⟩ := h2
      rw [qnum_err] at h3
      simp only [Prod.mk.injEq] at h3
      exact h3.2.2
    · rw [hm2] at h2
      simp only [Prod.mk.injEq] at h2
      obtain ⟨_, rfl, rfl⟩ := h2
      rw [qnum_num] at h3
      dsimp only
      rw [if_neg (by omega)]
      rcases hm3 : Sc.num 1 999 l2 with e | ⟨n3, l4'⟩
      · rw [hm3] at h3
        simp only [Prod.mk.injEq] at h3
        exact h3.2.2
      · rw [hm3] at h3
        simp only [Prod.mk.injEq] at h3
        obtain ⟨rfl, rfl, rfl⟩ := h3
        exact ⟨rfl, rfl, by simp, pts_no _, ns_no _⟩
end Go.Proofs.YtbhjkddjgikaiaaGreatDoor

namespace Go.Proofs.YtbhjkddjgikaiaaGreatDoor
open Go.RowKit
set_option linter.unusedVariables false
set_option linter.unusedSimpArgs false
theorem split_step {T : Except (Nat × Nat) (List (Nat × Nat) × List Lx.Tk)} {ps : List (Nat × Nat)} {lr q1 q2 : List Lx.Tk} {er1 e1 e2 : Option (Nat × Nat)} {n1 n2 : Nat} (h : (er1 = none → ps.length < 8 ∧ T = Sc.preP ps (Sc.partsOf (8 - ps.length) lr)) ∧ ∀ e, er1 = some e → T = .error e)
    (h1 : ((n1 : Int), (q1, e1)) = qnum 1 999999 (lr, er1)) (h2 : ((n2 : Int), (q2, e2)) = qnum 1 1000000 (q1, e1)) :
    (e2 = none → ps.length < 8 ∧ (Sc.isN 5 [44] q2 = true → T = Sc.preP (ps ++ [(n1, n2)]) (Sc.partsOf (8 - (ps.length + 1)) q2.tail)) ∧ (Sc.isN 5 [44] q2 = false → T = .ok (ps ++ [(n1, n2)], q2))) ∧ ∀ e, e2 = some e → T = .error e := by
  rcases er1 with _ | e
  · obtain ⟨hl, hT⟩ := h.1 rfl
    obtain ⟨f, hf⟩ : ∃ f, 8 - ps.length = f + 1 := ⟨7 - ps.length, by omega⟩
    rw [hf] at hT
    rw [qnum_num] at h1
    rcases hn : Sc.num 1 999999 lr with e | ⟨a, r⟩
    · rw [hn] at h1
      simp only [Prod.mk.injEq] at h1
      obtain ⟨_, rfl, rfl⟩ := h1
      rw [qnum_err] at h2
      simp only [Prod.mk.injEq] at h2
      obtain ⟨_, rfl, rfl⟩ := h2
      rw [Sc.partsOf_err1 hn] at hT
      exact ⟨fun h => (by cases h), fun e' he => by cases he; exact hT⟩
    · rw [hn] at h1
      simp only [Prod.mk.injEq] at h1
      obtain ⟨rfl, rfl, rfl⟩ := h1
      rw [qnum_num] at h2
      rcases hm : Sc.num 1 1000000 q1 with e | ⟨c, r2⟩
      · rw [hm] at h2
        simp only [Prod.mk.injEq] at h2
        obtain ⟨_, rfl, rfl⟩ := h2
        rw [Sc.partsOf_err2 hn hm] at hT
        exact ⟨fun h => (by cases h), fun e' he => by cases he; exact hT⟩
      · rw [hm] at h2
        simp only [Prod.mk.injEq] at h2
        obtain ⟨rfl, rfl, rfl⟩ := h2
        refine ⟨fun _ => ⟨hl, fun hi => ?_, fun hi => ?_⟩, fun e he => by cases he⟩
        · rw [hT, Sc.partsOf_more hn hm hi, show 8 - (ps.length + 1) = f by omega]
          rfl
        · rw [hT, Sc.partsOf_last hn hm hi]
          rfl
  · rw [qnum_err] at h1
    simp only [Prod.mk.injEq] at h1
    obtain ⟨_, rfl, rfl⟩ := h1
    rw [qnum_err] at h2
    simp only [Prod.mk.injEq] at h2
    obtain ⟨_, rfl, rfl⟩ := h2
    exact ⟨fun h => (by cases h), fun e' he => by cases he; exact h.2 e rfl⟩
set_option maxHeartbeats 16000000 in
set_option maxRecDepth 100000 in
theorem op_4 (g b ho pos : Nat) (l : List Lx.Tk) (w : World) (h : QsAt w g b l none) (hE : Sc.Ended l) (R : Row w ho (opc (opK 4 pos) (.slice none 0 0) (.slice none 0 0)).toArray 48) (hgo : g ≠ ho) (hbo : b ≠ ho) :
    Calls Tryz.prog 57 #[.pointer (some ⟨g, 0, none⟩), .pointer (some ⟨ho, 0, none⟩)] w fun e w' => e = .returned (.tuple #[]) ∧ opR w.heap.size g b ho pos l.length (Sc.restOf 4 l) w' ∧ Only (two g ho) w w' := by
  obtain ⟨res, hres⟩ : ∃ r, r = Sc.restOf 4 l := ⟨_, rfl⟩
  rw [← hres]
  have HRES := Lib.hid hres
  have HGO := Lib.hid (And.intro hgo hbo)
  have HL := Lib.hid (And.intro h.lt (And.intro (h.bl hE) R.lt))
  have k0 : w.cell? ⟨ho, 0, none⟩ = some (.int .i64 4) := R.cell 0
  have H0 := Lib.hid (And.intro R (And.intro h (And.intro (Only.refl (two g ho) w) (And.intro hE (Nat.le_refl l.length)))))
  clear hres h hE R hgo hbo
  go_enter Tryz.func57, Tryz.ntmps57
  go_wp2_with fail
  refine (qnum_any 1 999999 g b l none w H0.out.2.1 H0.out.2.2.2.1).mono ?_
  have hE := qnum_ended (lo := 1) (hi := 999999) (q := (l, none)) H0.out.2.2.2.1
  obtain ⟨r, hr⟩ : ∃ r, r = qnum 1 999999 (l, none) := ⟨_, rfl⟩
  have hin := qnum_in (lo := 1) (hi := 999999) (q := (l, none))
  rw [← hr] at hE hin ⊢
  obtain ⟨n, l1, er1⟩ := r
  have hin : n = 0 ∨ (1 ≤ n ∧ n ≤ 999999) := hin
  rintro _ w1' ⟨rfl, hp, O⟩
  obtain ⟨m1, rfl⟩ : ∃ m : Nat, n = (m : Int) := ⟨n.toNat, by omega⟩
  have hu : IntKind.u32.wrap (m1 : Int) = (m1 : Int) := by rw [IntKind.wrap_u32]; omega
  have E1 := Lib.hid hr
  clear hin hr
  have RB := O.row H0.out.1 (show ¬ ho = g from fun e => HGO.out.1 e.symm)
  have k1 : w1'.cell? ⟨ho, 1, none⟩ = some (.int .u32 0) := RB.cell 1
  have z1 := RB.frozen 1
  have SH := set_only w1' ho 1 (.int .u32 (m1 : Int))
  have RA : Row (w1'.setCell ⟨ho, 1, none⟩ (.int .u32 (m1 : Int))) ho #[.int .i64 4, .int .u32 (m1 : Int), .int .u32 0, .string ⟨#[]⟩, .slice none 0 0, .slice none 0 0, .int .i32 0, .int .i64 (pos : Int)] 48 := RB.set 1 _
  have hpA := hp.only SH HGO.out.1 HGO.out.2
  have OA := (H0.out.2.2.1.trans (O.mono fun k e => .inl e)).trans (SH.mono (S' := two g ho) fun k e => .inr e)
  have H1 := Lib.hid (And.intro RA (And.intro hpA (And.intro OA (And.intro hE.1 (Nat.le_trans hE.2 H0.out.2.2.2.2)))))
  clear RA hpA OA SH RB hp O hE
  go_wp2_with fail
  generalize (w1'.setCell ⟨ho, 1, none⟩ (.int .u32 (m1 : Int))) = wA1 at *
  refine (need_any 1 (Sc.link 4) (by omega) g b l1 er1 wA1 H1.out.2.1 H1.out.2.2.2.1).mono ?_
  have hE := qneed_ended (k := 1) (x := (Sc.link 4)) (q := (l1, er1)) (by omega) H1.out.2.2.2.1
  obtain ⟨r, hr⟩ : ∃ r, r = qneed 1 (Sc.link 4) (l1, er1) := ⟨_, rfl⟩
  rw [← hr] at hE ⊢
  obtain ⟨t2, l2, er2⟩ := r
  rintro _ w2' ⟨rfl, hp, O⟩
  have E2 := Lib.hid hr
  clear hr
  have RB := O.row H1.out.1 (show ¬ ho = g from fun e => HGO.out.1 e.symm)
  have OA := H1.out.2.2.1.trans (O.mono (S' := two g ho) fun k e => .inl e)
  have H2 := Lib.hid (And.intro RB (And.intro hp (And.intro OA (And.intro hE.1 (Nat.le_trans hE.2 H1.out.2.2.2.2)))))
  clear RB OA hp O hE
  unfold tk
  go_wp2_with fail
  obtain ⟨T, hT⟩ : ∃ T, T = (match er2 with
      | some e => Except.error e
      | none => Sc.partsOf 8 l2) := ⟨_, rfl⟩
  have HT := Lib.hid hT
  clear hT
  go_loopw [4] (fun zv wr => ∃ (more : Bool) (ps : List (Nat × Nat)) (lr : List Lx.Tk) (er : Option (Nat × Nat)) (v : Value), zv = .bool more ∧ wr.ownsRow w.heap.size 126 2 v ps.length (ps.flatMap ptv) ∧ Row wr ho #[.int .i64 4, .int .u32 (m1 : Int), .int .u32 0, .string ⟨#[]⟩, v, .slice none 0 0, .int .i32 0, .int .i64 (pos : Int)] 48 ∧ QsAt wr g b lr er ∧ (Sc.Ended lr ∧ lr.length ≤ l.length) ∧ ((er = none → more = true → ps.length ≤ 8 ∧ T = Sc.preP ps (Sc.partsOf (8 - ps.length) lr)) ∧ (er = none → more = false → T = .ok (ps, lr)) ∧ (∀ e, er = some e → T = .error e)) ∧ Only (two g ho) w wr) (fun _ wr => 10 - lenOf ((wr.cell? ⟨ho, 4, none⟩).getD undef))
  case atStart =>
    have h := H2.out
    refine ⟨true, [], l2, er2, .slice none 0 0, rfl, ⟨rfl, .inl ⟨rfl, rfl⟩⟩, h.1, h.2.1, h.2.2.2, ⟨fun e _ => ⟨by simp, ?_⟩, fun _ h => (by cases h), fun e he => ?_⟩, h.2.2.1⟩
    · rw [HT.out, e, Sc.preP_nil]
      rfl
    · rw [HT.out, he]
  case round =>
    clear H0 k0
    obtain ⟨more, ps, lr, er, v, rfl, how, R, hq, hE, hrel, O⟩ := hrel
    obtain ⟨pv, cv, rfl⟩ := own_slc how
    have HH := Lib.hid (And.intro how (And.intro R (And.intro hq (And.intro hE (And.intro hrel O)))))
    have c4 : wr.cell? ⟨ho, 4, none⟩ = some (.slice pv ps.length cv) := R.cell 4
    obtain ⟨off, c, RG, _⟩ := hq
    have cg2 : wr.cell? ⟨g, 2, none⟩ = some (.int .i64 ((erAt er).2 : Int)) := RG.cell 2
    have hec : (er = none ∧ (erAt er).2 = 0) ∨ (∃ e, er = some e ∧ (erAt er).2 ≠ 0) := by
      rcases er with _ | e
      · exact .inl ⟨rfl, rfl⟩
      · obtain ⟨_, _, _, _, _, _, _, h⟩ := HH.out.2.2.1
        exact .inr ⟨e, rfl, h e rfl⟩
    clear how R hE hrel O RG
    by_cases hgo : er = none ∧ more = true
    · obtain ⟨rfl, rfl⟩ := hgo
      have cg2 : wr.cell? ⟨g, 2, none⟩ = some (.int .i64 0) := cg2
      clear hec
      have h8t := HH.out.2.2.2.2.1.1 rfl rfl
      have H8T := Lib.hid h8t
      have hlE := HH.out.2.2.2.1.1
      clear h8t
      by_cases h8 : ps.length = 8
      · have i8 : (ps.length : Int) = 8 := by omega
        go_wp2_with fail
        refine (wrong_any 2 (by omega) g b lr none wr HH.out.2.2.1 hlE).mono ?_
        rintro _ wX ⟨rfl, hqX, OX⟩
        obtain ⟨er1, her1⟩ : ∃ e : Option (Nat × Nat), e = some ((Sc.hd lr).pos, 2) := ⟨_, rfl⟩
        have HX : Hid (QsAt wX g b lr er1 ∧ Only (· = g) wr wX ∧ (er1 = none → ps.length < 8 ∧ T = Sc.preP ps (Sc.partsOf (8 - ps.length) lr)) ∧ ∀ e, er1 = some e → T = .error e) := Lib.hid ⟨by rw [her1]; exact hqX, OX, fun h => (by rw [her1] at h; cases h), fun e he => by
          rw [her1] at he
          cases he
          rw [H8T.out.2, h8]
          rfl⟩
        clear hqX OX her1 h8 i8
        go_wp2_with fail
        refine (qnum_any 1 999999 g b lr er1 _ HX.out.1 hlE).mono ?_
        have hE1 := qnum_ended (lo := 1) (hi := 999999) (q := (lr, er1)) hlE
        obtain ⟨r, hr⟩ : ∃ r, r = qnum 1 999999 (lr, er1) := ⟨_, rfl⟩
        have hin := qnum_in (lo := 1) (hi := 999999) (q := (lr, er1))
        rw [← hr] at hE1 hin ⊢
        obtain ⟨n, q1, e1⟩ := r
        have hin : n = 0 ∨ (1 ≤ n ∧ n ≤ 999999) := hin
        rintro _ w1 ⟨rfl, hp1, O1⟩
        obtain ⟨n1, rfl⟩ : ∃ m : Nat, n = (m : Int) := ⟨n.toNat, by omega⟩
        have hu : IntKind.u32.wrap (n1 : Int) = (n1 : Int) := by rw [IntKind.wrap_u32]; omega
        have ER1 := Lib.hid hr
        have OX1 : Only (· = g) wr w1 := HX.out.2.1.trans O1
        have H1 := Lib.hid (And.intro hp1 (And.intro OX1 hE1))
        have hlw := HL.out
        have hww := HH.out.2.2.2.2.2.size
        have hw1 := OX1.size
        clear hin hr hp1 O1 hE1 OX1 c4 cg2
        go_wp2_with fail
        have R1 : Row (w1.alloc (.cells #[.int .u32 (n1 : Int), .int .i64 0] 126)) w1.heap.size #[.int .u32 (n1 : Int), .int .i64 0] 126 := Row.new w1 _ _
        have OA1 : Only (fun _ => False) w1 (w1.alloc (.cells #[.int .u32 (n1 : Int), .int .i64 0] 126)) := (Only.refl _ w1).alloc _
        refine (qnum_any 1 1000000 g b q1 e1 _ (H1.out.1.only OA1 (fun h => h) (fun h => h)) H1.out.2.2.1).mono ?_
        have hE2 := qnum_ended (lo := 1) (hi := 1000000) (q := (q1, e1)) H1.out.2.2.1
        obtain ⟨r, hr⟩ : ∃ r, r = qnum 1 1000000 (q1, e1) := ⟨_, rfl⟩
        have hin := qnum_in (lo := 1) (hi := 1000000) (q := (q1, e1))
        rw [← hr] at hE2 hin ⊢
        obtain ⟨n, q2, e2⟩ := r
        have hin : n = 0 ∨ (1 ≤ n ∧ n ≤ 1000000) := hin
        rintro _ w2 ⟨rfl, hp2, O2⟩
        obtain ⟨n2, rfl⟩ : ∃ m : Nat, n = (m : Int) := ⟨n.toNat, by omega⟩
        have ER2 := Lib.hid hr
        have hgp : w1.heap.size ≠ g := by omega
        have R2 := O2.row R1 (show ¬ w1.heap.size = g from hgp)
        have OA2 : Only (· = g) w1 w2 := (OA1.mono fun k h => h.elim).trans O2
        have hw2 := R2.lt
        obtain ⟨gp, hgpp⟩ : ∃ x, x = w1.heap.size := ⟨_, rfl⟩
        rw [← hgpp] at R2 hgp hw2 ⊢
        have k1 : w2.cell? ⟨gp, 1, none⟩ = some (.int .i64 0) := R2.cell 1
        have z1 := R2.frozen 1
        have R3 : Row (w2.setCell ⟨gp, 1, none⟩ (.int .i64 (n2 : Int))) gp #[.int .u32 (n1 : Int), .int .i64 (n2 : Int)] 126 := R2.set 1 _
        have SP := set_only w2 gp 1 (.int .i64 (n2 : Int))
        have hho : ¬ ho = gp := by omega
        have Rho := SP.row (OA2.row (H1.out.2.1.row HH.out.2.1 (show ¬ ho = g from fun e => HGO.out.1 e.symm)) (show ¬ ho = g from fun e => HGO.out.1 e.symm)) hho
        have how3 := own_only (own_only (own_only HH.out.1 H1.out.2.1 (fun k e => by have : k = g := e; omega)) OA2 (fun k e => by have : k = g := e; omega)) ((Only.refl (fun _ => False) w2)) (fun k h => h.elim)
        have how4 : (w2.setCell ⟨gp, 1, none⟩ (.int .i64 (n2 : Int))).ownsRow w.heap.size 126 2 (.slice pv ps.length cv) ps.length (ps.flatMap ptv) := SP.own how3 (fun q hq e => by
          have e : q = gp := e
          have h1 := (ownW_lt (own_only HH.out.1 H1.out.2.1 (fun k e => by have : k = g := e; omega)) hq).2
          omega)
        have hq3 := hp2.only SP (show ¬ g = gp from fun e => hgp e.symm) (show ¬ b = gp by omega)
        have OW : Only (two g ho) w (w2.setCell ⟨gp, 1, none⟩ (.int .i64 (n2 : Int))) := (((HH.out.2.2.2.2.2.trans (H1.out.2.1.mono fun k e => .inl e)).trans (OA2.mono fun k e => .inl e)).trans_new SP (fun i hi e => by have : i = gp := e; omega))
        have H3 := Lib.hid (And.intro R3 (And.intro Rho (And.intro how4 (And.intro hq3 (And.intro OW hE2)))))
        clear hin hr hp2 O2 hE2 R1 OA1 OA2 R2 R3 SP Rho how3 how4 hq3 OW hgpp hlw hww hw1
        go_wp2_with fail
        generalize (w2.setCell ⟨gp, 1, none⟩ (.int .i64 (n2 : Int))) = w3 at *
        have h3 := H3.out
        have b0 : w3.cell? ⟨gp, 0, none⟩ = some (.int .u32 (n1 : Int)) := h3.1.cell 0
        have b1 : w3.cell? ⟨gp, 1, none⟩ = some (.int .i64 (n2 : Int)) := h3.1.cell 1
        have b4 : w3.cell? ⟨ho, 4, none⟩ = some (.slice pv ps.length cv) := h3.2.1.cell 4
        have b44 : (w3.alloc (.cells #[.int .u32 (n1 : Int), .int .i64 (n2 : Int)] 126)).cell? ⟨ho, 4, none⟩ = some (.slice pv ps.length cv) := (h3.2.1.alloc _).cell 4
        have hps : ps.length ≤ 8 := H8T.out.1
        obtain ⟨v6, w6, hr6, ho6, hb6, hk6⟩ := append_pt (w3.alloc (.cells #[.int .u32 (n1 : Int), .int .i64 (n2 : Int)] 126)).drew w.heap.size 42 _ ps.length ps (own_alloc h3.2.2.1 _) w3.heap.size (n1, n2) (Row.new w3 _ _).drew (by omega) ((h3.2.2.2.2.1.alloc (.cells #[.int .u32 (n1 : Int), .int .i64 (n2 : Int)] 126)).drew.size)
        obtain ⟨pv6, cv6, rfl⟩ := own_slc ho6
        have R6 := hk6 _ _ _ (h3.2.1.alloc (.cells #[.int .u32 (n1 : Int), .int .i64 (n2 : Int)] 126)).drew (by decide)
        have hlw := HL.out
        have q6 : QsAt w6 g b q2 e2 := (h3.2.2.2.1.only ((Only.refl (fun _ => False) w3).alloc (.cells #[.int .u32 (n1 : Int), .int .i64 (n2 : Int)] 126)).drew (fun h => h) (fun h => h)).only (Only.of_base hb6) (by show ¬ w.heap.size ≤ g; omega) (by show ¬ w.heap.size ≤ b; omega)
        have b64 : w6.cell? ⟨ho, 4, none⟩ = some (.slice pv ps.length cv) := R6.cell 4
        have z64 := R6.frozen 4
        have SH := set_only w6 ho 4 (.slice pv6 (ps.length + 1) cv6)
        have R7 : Row (w6.setCell ⟨ho, 4, none⟩ (.slice pv6 (ps.length + 1) cv6)) ho #[.int .i64 4, .int .u32 (m1 : Int), .int .u32 0, .string ⟨#[]⟩, .slice pv6 (ps.length + 1) cv6, .slice none 0 0, .int .i32 0, .int .i64 (pos : Int)] 48 := R6.set 4 _
        have how7 := own_only ho6 SH (fun k e => by have : k = ho := e; omega)
        have q7 := q6.only SH HGO.out.1 HGO.out.2
        have O7 : Only (two g ho) w (w6.setCell ⟨ho, 4, none⟩ (.slice pv6 (ps.length + 1) cv6)) := ((h3.2.2.2.2.1.alloc (.cells #[.int .u32 (n1 : Int), .int .i64 (n2 : Int)] 126)).drew.then_below hb6).trans (SH.mono fun k e => .inr e)
        have H7 := Lib.hid (And.intro how7 (And.intro R7 (And.intro q7 (And.intro O7 h3.2.2.2.2.2))))
        have HR6 := Lib.hid hr6
        clear h3 ho6 hb6 hk6 R6 q6 SH R7 how7 q7 O7 k1 z1 hr6
        go_region_law (refine step_run rfl _ _ 42 rfl _ _ rfl rfl HR6.out ?_)
        all_goals
          go_wp2_with fail
          generalize (w6.setCell ⟨ho, 4, none⟩ (.slice pv6 (ps.length + 1) cv6)) = w7 at *
          have h7 := H7.out
          have his := is_any 5 [44] g b q2 e2 w7 h7.2.2.1 h7.2.2.2.2.1
          have hst := split_step HX.out.2.2 ER1.out ER2.out
          have HST := Lib.hid hst
          have hlen : q2.length ≤ l.length := by
            have a1 : q2.length ≤ q1.length := h7.2.2.2.2.2
            have a2 : q1.length ≤ lr.length := H1.out.2.2.2
            have a3 := HH.out.2.2.2.1.2
            omega
          have e7 : w7.cell? ⟨ho, 4, none⟩ = some (.slice pv6 (ps.length + 1) cv6) := h7.2.1.cell 4
          have er7 : wr.cell? ⟨ho, 4, none⟩ = some (.slice pv ps.length cv) := HH.out.2.1.cell 4
          have HE7 := Lib.hid (And.intro hlen (And.intro e7 er7))
          clear hst hlen e7 er7 h7
          cases hb : isQ 5 [44] q2 e2
          · rw [hb] at his
            have HB := Lib.hid hb
            clear hb
            refine his.mono ?_
            rintro _ w7 ⟨rfl, rfl⟩
            clear his
            go_wp2_with fail
            have h7 := H7.out
            have hst := HST.out
            refine ⟨⟨false, ps ++ [(n1, n2)], q2, e2, .slice pv6 (ps.length + 1) cv6, rfl, by rw [List.length_append]; exact h7.1, h7.2.1, h7.2.2.1, ⟨h7.2.2.2.2.1, HE7.out.1⟩, ⟨fun _ h => (by cases h), fun he _ => (hst.1 he).2.2 (by have hb := HB.out; rw [he] at hb; unfold isQ at hb; simpa using hb), hst.2⟩, h7.2.2.2.1⟩, ?_⟩
            rw [HE7.out.2.1, HE7.out.2.2]
            show 10 - (ps.length + 1) < 10 - ps.length
            omega
          · rw [hb] at his
            have HB := Lib.hid hb
            clear hb
            refine his.mono ?_
            rintro _ w7 ⟨rfl, rfl⟩
            clear his
            go_wp2_with fail
            have h7 := H7.out
            refine (need_any 5 [44] (by omega) g b q2 e2 w7 h7.2.2.1 h7.2.2.2.2.1).mono ?_
            have hqn : qneed 5 [44] (q2, e2) = (Sc.hd q2, (q2.tail, e2)) := by unfold qneed; rw [if_pos HB.out]
            rw [hqn]
            rintro _ w8 ⟨rfl, hp8, O8⟩
            have he2 : e2 = none := by have hb := HB.out; unfold isQ at hb; simp at hb; exact hb.1
            have hi2 : Sc.isN 5 [44] q2 = true := by have hb := HB.out; unfold isQ at hb; simp at hb; exact hb.2
            have hst := (HST.out.1 he2)
            have hlw := HL.out
            have hng : ¬ ho = g := fun e => HGO.out.1 e.symm
            have R8 := O8.row h7.2.1 hng
            have H8 := Lib.hid (And.intro (own_only h7.1 O8 (fun k e => by have : k = g := e; omega)) (And.intro R8 (And.intro hp8 (And.intro (h7.2.2.2.2.1.tail (by have := Sc.isN_kind hi2; omega)) (And.intro hst (h7.2.2.2.1.trans (O8.mono fun k e => .inl e)))))))
            have e8 : w8.cell? ⟨ho, 4, none⟩ = some (.slice pv6 (ps.length + 1) cv6) := R8.cell 4
            have HE8 := Lib.hid (And.intro e8 (And.intro hi2 he2))
            clear h7 hqn hp8 O8 he2 hi2 hst hng R8 e8 hlw
            unfold tk
            go_wp2_with fail
            have h8 := H8.out
            refine ⟨⟨true, ps ++ [(n1, n2)], q2.tail, e2, .slice pv6 (ps.length + 1) cv6, rfl, by rw [List.length_append]; exact h8.1, h8.2.1, h8.2.2.1, ⟨h8.2.2.2.1, by rw [List.length_tail]; have := HE7.out.1; omega⟩, ⟨fun _ _ => ⟨by rw [List.length_append, List.length_singleton]; omega, by rw [List.length_append, List.length_singleton]; exact h8.2.2.2.2.1.2.1 HE8.out.2.1⟩, fun _ h => (by cases h), HST.out.2⟩, h8.2.2.2.2.2⟩, ?_⟩
            rw [HE8.out.1, HE7.out.2.2]
            show 10 - (ps.length + 1) < 10 - ps.length
            omega
      · have i8 : ¬ (ps.length : Int) = 8 := by omega
        go_wp2_with fail
        obtain ⟨er1, her1⟩ : ∃ e : Option (Nat × Nat), e = none := ⟨_, rfl⟩
        have HX : Hid (QsAt wr g b lr er1 ∧ Only (· = g) wr wr ∧ (er1 = none → ps.length < 8 ∧ T = Sc.preP ps (Sc.partsOf (8 - ps.length) lr)) ∧ ∀ e, er1 = some e → T = .error e) := Lib.hid ⟨by rw [her1]; exact HH.out.2.2.1, Only.refl _ _, fun h => ⟨by have := H8T.out.1; omega, H8T.out.2⟩, fun e he => by rw [her1] at he; cases he⟩
        clear her1 h8 i8
        refine (qnum_any 1 999999 g b lr er1 _ HX.out.1 hlE).mono ?_
        have hE1 := qnum_ended (lo := 1) (hi := 999999) (q := (lr, er1)) hlE
        obtain ⟨r, hr⟩ : ∃ r, r = qnum 1 999999 (lr, er1) := ⟨_, rfl⟩
        have hin := qnum_in (lo := 1) (hi := 999999) (q := (lr, er1))
        rw [← hr] at hE1 hin ⊢
        obtain ⟨n, q1, e1⟩ := r
        have hin : n = 0 ∨ (1 ≤ n ∧ n ≤ 999999) := hin
        rintro _ w1 ⟨rfl, hp1, O1⟩
        obtain ⟨n1, rfl⟩ : ∃ m : Nat, n = (m : Int) := ⟨n.toNat, by omega⟩
        have hu : IntKind.u32.wrap (n1 : Int) = (n1 : Int) := by rw [IntKind.wrap_u32]; omega
        have ER1 := Lib.hid hr
        have OX1 : Only (· = g) wr w1 := HX.out.2.1.trans O1
        have H1 := Lib.hid (And.intro hp1 (And.intro OX1 hE1))
        have hlw := HL.out
        have hww := HH.out.2.2.2.2.2.size
        have hw1 := OX1.size
        clear hin hr hp1 O1 hE1 OX1 c4 cg2
        go_wp2_with fail
        have R1 : Row (w1.alloc (.cells #[.int .u32 (n1 : Int), .int .i64 0] 126)) w1.heap.size #[.int .u32 (n1 : Int), .int .i64 0] 126 := Row.new w1 _ _
        have OA1 : Only (fun _ => False) w1 (w1.alloc (.cells #[.int .u32 (n1 : Int), .int .i64 0] 126)) := (Only.refl _ w1).alloc _
        refine (qnum_any 1 1000000 g b q1 e1 _ (H1.out.1.only OA1 (fun h => h) (fun h => h)) H1.out.2.2.1).mono ?_
        have hE2 := qnum_ended (lo := 1) (hi := 1000000) (q := (q1, e1)) H1.out.2.2.1
        obtain ⟨r, hr⟩ : ∃ r, r = qnum 1 1000000 (q1, e1) := ⟨_, rfl⟩
        have hin := qnum_in (lo := 1) (hi := 1000000) (q := (q1, e1))
        rw [← hr] at hE2 hin ⊢
        obtain ⟨n, q2, e2⟩ := r
        have hin : n = 0 ∨ (1 ≤ n ∧ n ≤ 1000000) := hin
        rintro _ w2 ⟨rfl, hp2, O2⟩
        obtain ⟨n2, rfl⟩ : ∃ m : Nat, n = (m : Int) := ⟨n.toNat, by omega⟩
        have ER2 := Lib.hid hr
        have hgp : w1.heap.size ≠ g := by omega
        have R2 := O2.row R1 (show ¬ w1.heap.size = g from hgp)
        have OA2 : Only (· = g) w1 w2 := (OA1.mono fun k h => h.elim).trans O2
        have hw2 := R2.lt
        obtain ⟨gp, hgpp⟩ : ∃ x, x = w1.heap.size := ⟨_, rfl⟩
        rw [← hgpp] at R2 hgp hw2 ⊢
        have k1 : w2.cell? ⟨gp, 1, none⟩ = some (.int .i64 0) := R2.cell 1
        have z1 := R2.frozen 1
        have R3 : Row (w2.setCell ⟨gp, 1, none⟩ (.int .i64 (n2 : Int))) gp #[.int .u32 (n1 : Int), .int .i64 (n2 : Int)] 126 := R2.set 1 _
        have SP := set_only w2 gp 1 (.int .i64 (n2 : Int))
        have hho : ¬ ho = gp := by omega
        have Rho := SP.row (OA2.row (H1.out.2.1.row HH.out.2.1 (show ¬ ho = g from fun e => HGO.out.1 e.symm)) (show ¬ ho = g from fun e => HGO.out.1 e.symm)) hho
        have how3 := own_only (own_only (own_only HH.out.1 H1.out.2.1 (fun k e => by have : k = g := e; omega)) OA2 (fun k e => by have : k = g := e; omega)) ((Only.refl (fun _ => False) w2)) (fun k h => h.elim)
        have how4 : (w2.setCell ⟨gp, 1, none⟩ (.int .i64 (n2 : Int))).ownsRow w.heap.size 126 2 (.slice pv ps.length cv) ps.length (ps.flatMap ptv) := SP.own how3 (fun q hq e => by
          have e : q = gp := e
          have h1 := (ownW_lt (own_only HH.out.1 H1.out.2.1 (fun k e => by have : k = g := e; omega)) hq).2
          omega)
        have hq3 := hp2.only SP (show ¬ g = gp from fun e => hgp e.symm) (show ¬ b = gp by omega)
        have OW : Only (two g ho) w (w2.setCell ⟨gp, 1, none⟩ (.int .i64 (n2 : Int))) := (((HH.out.2.2.2.2.2.trans (H1.out.2.1.mono fun k e => .inl e)).trans (OA2.mono fun k e => .inl e)).trans_new SP (fun i hi e => by have : i = gp := e; omega))
        have H3 := Lib.hid (And.intro R3 (And.intro Rho (And.intro how4 (And.intro hq3 (And.intro OW hE2)))))
        clear hin hr hp2 O2 hE2 R1 OA1 OA2 R2 R3 SP Rho how3 how4 hq3 OW hgpp hlw hww hw1
        go_wp2_with fail
        generalize (w2.setCell ⟨gp, 1, none⟩ (.int .i64 (n2 : Int))) = w3 at *
        have h3 := H3.out
        have b0 : w3.cell? ⟨gp, 0, none⟩ = some (.int .u32 (n1 : Int)) := h3.1.cell 0
        have b1 : w3.cell? ⟨gp, 1, none⟩ = some (.int .i64 (n2 : Int)) := h3.1.cell 1
        have b4 : w3.cell? ⟨ho, 4, none⟩ = some (.slice pv ps.length cv) := h3.2.1.cell 4
        have b44 : (w3.alloc (.cells #[.int .u32 (n1 : Int), .int .i64 (n2 : Int)] 126)).cell? ⟨ho, 4, none⟩ = some (.slice pv ps.length cv) := (h3.2.1.alloc _).cell 4
        have hps : ps.length ≤ 8 := H8T.out.1
        obtain ⟨v6, w6, hr6, ho6, hb6, hk6⟩ := append_pt (w3.alloc (.cells #[.int .u32 (n1 : Int), .int .i64 (n2 : Int)] 126)).drew w.heap.size 42 _ ps.length ps (own_alloc h3.2.2.1 _) w3.heap.size (n1, n2) (Row.new w3 _ _).drew (by omega) ((h3.2.2.2.2.1.alloc (.cells #[.int .u32 (n1 : Int), .int .i64 (n2 : Int)] 126)).drew.size)
        obtain ⟨pv6, cv6, rfl⟩ := own_slc ho6
        have R6 := hk6 _ _ _ (h3.2.1.alloc (.cells #[.int .u32 (n1 : Int), .int .i64 (n2 : Int)] 126)).drew (by decide)
        have hlw := HL.out
        have q6 : QsAt w6 g b q2 e2 := (h3.2.2.2.1.only ((Only.refl (fun _ => False) w3).alloc (.cells #[.int .u32 (n1 : Int), .int .i64 (n2 : Int)] 126)).drew (fun h => h) (fun h => h)).only (Only.of_base hb6) (by show ¬ w.heap.size ≤ g; omega) (by show ¬ w.heap.size ≤ b; omega)
        have b64 : w6.cell? ⟨ho, 4, none⟩ = some (.slice pv ps.length cv) := R6.cell 4
        have z64 := R6.frozen 4
        have SH := set_only w6 ho 4 (.slice pv6 (ps.length + 1) cv6)
        have R7 : Row (w6.setCell ⟨ho, 4, none⟩ (.slice pv6 (ps.length + 1) cv6)) ho #[.int .i64 4, .int .u32 (m1 : Int), .int .u32 0, .string ⟨#[]⟩, .slice pv6 (ps.length + 1) cv6, .slice none 0 0, .int .i32 0, .int .i64 (pos : Int)] 48 := R6.set 4 _
        have how7 := own_only ho6 SH (fun k e => by have : k = ho := e; omega)
        have q7 := q6.only SH HGO.out.1 HGO.out.2
        have O7 : Only (two g ho) w (w6.setCell ⟨ho, 4, none⟩ (.slice pv6 (ps.length + 1) cv6)) := ((h3.2.2.2.2.1.alloc (.cells #[.int .u32 (n1 : Int), .int .i64 (n2 : Int)] 126)).drew.then_below hb6).trans (SH.mono fun k e => .inr e)
        have H7 := Lib.hid (And.intro how7 (And.intro R7 (And.intro q7 (And.intro O7 h3.2.2.2.2.2))))
        have HR6 := Lib.hid hr6
        clear h3 ho6 hb6 hk6 R6 q6 SH R7 how7 q7 O7 k1 z1 hr6
        go_region_law (refine step_run rfl _ _ 42 rfl _ _ rfl rfl HR6.out ?_)
        all_goals
          go_wp2_with fail
          generalize (w6.setCell ⟨ho, 4, none⟩ (.slice pv6 (ps.length + 1) cv6)) = w7 at *
          have h7 := H7.out
          have his := is_any 5 [44] g b q2 e2 w7 h7.2.2.1 h7.2.2.2.2.1
          have hst := split_step HX.out.2.2 ER1.out ER2.out
          have HST := Lib.hid hst
          have hlen : q2.length ≤ l.length := by
            have a1 : q2.length ≤ q1.length := h7.2.2.2.2.2
            have a2 : q1.length ≤ lr.length := H1.out.2.2.2
            have a3 := HH.out.2.2.2.1.2
            omega
          have e7 : w7.cell? ⟨ho, 4, none⟩ = some (.slice pv6 (ps.length + 1) cv6) := h7.2.1.cell 4
          have er7 : wr.cell? ⟨ho, 4, none⟩ = some (.slice pv ps.length cv) := HH.out.2.1.cell 4
          have HE7 := Lib.hid (And.intro hlen (And.intro e7 er7))
          clear hst hlen e7 er7 h7
          cases hb : isQ 5 [44] q2 e2
          · rw [hb] at his
            have HB := Lib.hid hb
            clear hb
            refine his.mono ?_
            rintro _ w7 ⟨rfl, rfl⟩
            clear his
            go_wp2_with fail
            have h7 := H7.out
            have hst := HST.out
            refine ⟨⟨false, ps ++ [(n1, n2)], q2, e2, .slice pv6 (ps.length + 1) cv6, rfl, by rw [List.length_append]; exact h7.1, h7.2.1, h7.2.2.1, ⟨h7.2.2.2.2.1, HE7.out.1⟩, ⟨fun _ h => (by cases h), fun he _ => (hst.1 he).2.2 (by have hb := HB.out; rw [he] at hb; unfold isQ at hb; simpa using hb), hst.2⟩, h7.2.2.2.1⟩, ?_⟩
            rw [HE7.out.2.1, HE7.out.2.2]
            show 10 - (ps.length + 1) < 10 - ps.length
            omega
          · rw [hb] at his
            have HB := Lib.hid hb
            clear hb
            refine his.mono ?_
            rintro _ w7 ⟨rfl, rfl⟩
            clear his
            go_wp2_with fail
            have h7 := H7.out
            refine (need_any 5 [44] (by omega) g b q2 e2 w7 h7.2.2.1 h7.2.2.2.2.1).mono ?_
            have hqn : qneed 5 [44] (q2, e2) = (Sc.hd q2, (q2.tail, e2)) := by unfold qneed; rw [if_pos HB.out]
            rw [hqn]
            rintro _ w8 ⟨rfl, hp8, O8⟩
            have he2 : e2 = none := by have hb := HB.out; unfold isQ at hb; simp at hb; exact hb.1
            have hi2 : Sc.isN 5 [44] q2 = true := by have hb := HB.out; unfold isQ at hb; simp at hb; exact hb.2
            have hst := (HST.out.1 he2)
            have hlw := HL.out
            have hng : ¬ ho = g := fun e => HGO.out.1 e.symm
            have R8 := O8.row h7.2.1 hng
            have H8 := Lib.hid (And.intro (own_only h7.1 O8 (fun k e => by have : k = g := e; omega)) (And.intro R8 (And.intro hp8 (And.intro (h7.2.2.2.2.1.tail (by have := Sc.isN_kind hi2; omega)) (And.intro hst (h7.2.2.2.1.trans (O8.mono fun k e => .inl e)))))))
            have e8 : w8.cell? ⟨ho, 4, none⟩ = some (.slice pv6 (ps.length + 1) cv6) := R8.cell 4
            have HE8 := Lib.hid (And.intro e8 (And.intro hi2 he2))
            clear h7 hqn hp8 O8 he2 hi2 hst hng R8 e8 hlw
            unfold tk
            go_wp2_with fail
            have h8 := H8.out
            refine ⟨⟨true, ps ++ [(n1, n2)], q2.tail, e2, .slice pv6 (ps.length + 1) cv6, rfl, by rw [List.length_append]; exact h8.1, h8.2.1, h8.2.2.1, ⟨h8.2.2.2.1, by rw [List.length_tail]; have := HE7.out.1; omega⟩, ⟨fun _ _ => ⟨by rw [List.length_append, List.length_singleton]; omega, by rw [List.length_append, List.length_singleton]; exact h8.2.2.2.2.1.2.1 HE8.out.2.1⟩, fun _ h => (by cases h), HST.out.2⟩, h8.2.2.2.2.2⟩, ?_⟩
            rw [HE8.out.1, HE7.out.2.2]
            show 10 - (ps.length + 1) < 10 - ps.length
            omega
    · have hend : more = false ∨ (more = true ∧ ¬ ((erAt er).2 : Int) = 0) := by
        rcases hec with ⟨h1, h2⟩ | ⟨e, h1, h2⟩
        · cases more
          · exact .inl rfl
          · exact absurd ⟨h1, rfl⟩ hgo
        · cases more
          · exact .inl rfl
          · exact .inr ⟨rfl, by omega⟩
      clear hec hgo
      rcases hend with rfl | ⟨rfl, hend⟩
      all_goals
        go_wp2_with fail
        have hh := HH.out
        first | go_end0 | refine bodyPost_ret (results_none rfl _ _ _) rfl ?_
        refine ⟨rfl, ⟨lr, er, { Sc.op0 with kind := 4, fr := m1, parts := ps, pos := pos }, .slice pv ps.length cv, .slice none 0 0, hh.2.2.1, hh.2.2.2.1, hh.2.1, ⟨⟨_, _, _, rfl⟩, ⟨_, _, _, rfl⟩, fun q hq => by
          rcases hq with hq | hq
          · exact own_fresh hh.1 q hq
          · cases hq⟩, ?_⟩, hh.2.2.2.2.2⟩
        have h1 := E1.out
        have h2 := E2.out
        have hT := HT.out
        have hrel := hh.2.2.2.2.1
        rw [qnum_num] at h1
        rw [HRES.out]
        unfold Sc.restOf
        rw [if_neg (by omega), show Sc.most 4 = 999999 from rfl]
        dsimp only
        have key : (∀ e, T = .error e → er = some e) ∧ (∀ qs r, T = .ok (qs, r) → er = none ∧ lr = r ∧ ps = qs) := by
          rcases er with _ | e'
          · have hok : T = .ok (ps, lr) := by
              first
                | exact absurd (show ((erAt none).2 : Int) = 0 from rfl) hend
                | exact hrel.2.1 rfl (by simp)
            exact ⟨fun e he => (by rw [hok] at he; cases he), fun qs r hr => (by rw [hok] at hr; cases hr; exact ⟨rfl, rfl, rfl⟩)⟩
          · have her := hrel.2.2 e' rfl
            exact ⟨fun e he => (by rw [her] at he; cases he; rfl), fun qs r hr => (by rw [her] at hr; cases hr)⟩
        rcases hm : Sc.num 1 999999 l with e | ⟨n, l1'⟩
        · rw [hm] at h1
          simp only [Prod.mk.injEq] at h1
          obtain ⟨_, rfl, rfl⟩ := h1
          rw [qneed_err] at h2
          simp only [Prod.mk.injEq] at h2
          obtain ⟨_, rfl, rfl⟩ := h2
          exact key.1 e hT
        · rw [hm] at h1
          simp only [Prod.mk.injEq] at h1
          obtain ⟨rfl, rfl, rfl⟩ := h1
          rw [qneed_must] at h2
          dsimp only
          rw [if_neg (by omega)]
          rcases hm2 : Sc.must 1 (Sc.link 4) l1 with e | ⟨t3, l3'⟩
          · rw [hm2] at h2
            simp only [Prod.mk.injEq] at h2
            obtain ⟨_, rfl, rfl⟩ := h2
            exact key.1 e hT
          · rw [hm2] at h2
            simp only [Prod.mk.injEq] at h2
            obtain ⟨_, rfl, rfl⟩ := h2
            dsimp only
            rw [if_pos rfl]
            rcases hm3 : Sc.partsOf 8 l2 with e | ⟨qs, l4'⟩
            · rw [hm3] at hT
              exact key.1 e hT
            · rw [hm3] at hT
              obtain ⟨h5, h6, rfl⟩ := key.2 qs l4' hT
              exact ⟨h5, h6, by simp, pts_own hh.1, ns_no _⟩
end Go.Proofs.YtbhjkddjgikaiaaGreatDoor
