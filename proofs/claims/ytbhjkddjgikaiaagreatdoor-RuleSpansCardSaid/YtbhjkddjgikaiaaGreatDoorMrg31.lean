/-
  Own texts, several in one (Par2, Par3, Par4).
-/
import Derived.Test.YtbhjkddjgikaiaaGreatDoorMrg30
import Derived.Test.YtbhjkddjgikaiaaGreatDoorMrg27
import Derived.Test.YtbhjkddjgikaiaaGreatDoorMrg29
namespace Go.Proofs.YtbhjkddjgikaiaaGreatDoor
open Go.RowKit
set_option linter.unusedVariables false
set_option linter.unusedSimpArgs false
theorem tk_num (t : Lx.Tk) (w : World) : (Instr.field 113 (.agg #[.int .i64 (t.kind : Int), .string ⟨t.text.toArray⟩, .int .i64 t.num, .int .i32 t.day, .int .i64 (t.pos : Int)]) 2).run Tryz.prog w = .ok (.int .i64 t.num) w := by kernel_rfl
theorem tk_day (t : Lx.Tk) (w : World) : (Instr.field 113 (.agg #[.int .i64 (t.kind : Int), .string ⟨t.text.toArray⟩, .int .i64 t.num, .int .i32 t.day, .int .i64 (t.pos : Int)]) 3).run Tryz.prog w = .ok (.int .i32 t.day) w := by kernel_rfl
theorem tk_text (t : Lx.Tk) (w : World) : (Instr.field 113 (.agg #[.int .i64 (t.kind : Int), .string ⟨t.text.toArray⟩, .int .i64 t.num, .int .i32 t.day, .int .i64 (t.pos : Int)]) 1).run Tryz.prog w = .ok (.string ⟨t.text.toArray⟩) w := by kernel_rfl
set_option maxHeartbeats 2000000 in
set_option maxRecDepth 100000 in
theorem pnum_any (lo hi : Int) (g b : Nat) (l : List Lx.Tk) (w : World) (h : PsAt w g b l) (hE : Sc.Ended l) :
    Calls Tryz.prog 99 #[.pointer (some ⟨g, 0, none⟩), .int .i64 lo, .int .i64 hi] w fun e w' => psR g b (fun n => .returned (.int .i64 n)) (Sc.num lo hi l) e w' ∧ Only (· = g) w w' := by
  have HP := Lib.hid h
  have HE := Lib.hid hE
  have hgl := h.lt
  obtain ⟨off, c, R, hT, hc, hm, hne⟩ := h
  have cg : w.cell? ⟨g, 0, none⟩ = some (.slice (some ⟨b, off, none⟩) l.length c) := R.cell 0
  have hl := hE.ne
  obtain ⟨c0, c1, c2, c3, c4⟩ := hT.hd hl
  have i1 : (0 : Int) < (l.length : Int) := by omega
  clear hT R hc hm hne hE hl
  by_cases hbad : (Sc.hd l).kind = 2 ∧ ((Sc.hd l).num < lo ∨ hi < (Sc.hd l).num)
  · have hn : Sc.num lo hi l = .error ((Sc.hd l).pos, 5) := by unfold Sc.num; rw [if_pos hbad]; rfl
    rw [hn]
    clear hn
    obtain ⟨t, ht⟩ : ∃ t, t = Sc.hd l := ⟨_, rfl⟩
    rw [← ht] at hbad c0 c1 c2 c3 c4 ⊢
    have HTT := Lib.hid ht
    obtain ⟨hk, hr⟩ := hbad
    have HK := Lib.hid (show (t.kind : Int) = 2 by omega)
    clear ht hk
    have hr : t.num < lo ∨ (¬ t.num < lo ∧ hi < t.num) := by omega
    rcases hr with hr | ⟨hr, hr2⟩
    all_goals
      go_enter Tryz.func99, Tryz.ntmps99
      go_wp2_with (first
        | (refine ev_alloc (N := 7) rfl rfl 113 rfl _ zero_tk ?_; intro g2 w3 hg2 R3 B3)
        | (refine ev_store rfl 113 (.tmp 7) _ rfl g2 (tk t).toArray rfl rfl R3 (tk_info _) rfl (tk_one _) rfl ?_; intro w4 R4 S4; have e0 : w4.cell? ⟨g2, 0, none⟩ = some (.int .i64 (t.kind : Int)) := R4.cell 0; have e2 : w4.cell? ⟨g2, 2, none⟩ = some (.int .i64 t.num) := R4.cell 2; have hk := HK.out))
      have hb := Only.stored (Only.of_below (S := fun _ => False) B3) S4 (.inr hg2)
      refine (fail_any 5 g b l w4 (HP.out.only hb (fun h => h) (fun h => h)) HE.out.ne).mono ?_
      rintro _ _ ⟨rfl, rfl⟩
      rw [← HTT.out]
      unfold stopE
      go_wp2_with fail
      exact ⟨rfl, rfl, hb.mono fun k h => h.elim⟩
  · have hn : Sc.num lo hi l = match Sc.must 2 [] l with
        | .error e => .error e
        | .ok (t, r) => .ok (t.num, r) := by unfold Sc.num; rw [if_neg hbad]; rcases Sc.must 2 [] l with e | ⟨t, r⟩ <;> rfl
    obtain ⟨res, hres⟩ : ∃ r, r = Sc.num lo hi l := ⟨_, rfl⟩
    rw [← hres]
    have HRES := Lib.hid (hres.trans hn)
    clear hn hres
    have hkk : ¬ ((Sc.hd l).kind : Int) = 2 ∨ (((Sc.hd l).kind : Int) = 2 ∧ ¬ (Sc.hd l).num < lo ∧ ¬ hi < (Sc.hd l).num) := by omega
    generalize Sc.hd l = t at *
    clear hbad
    have HM := Lib.hid (fun w' hp => must_any 2 [] g b l w' hp HE.out (by omega))
    rcases hkk with hk | ⟨hk, hr, hr2⟩
    all_goals
      have HK := Lib.hid hk
      clear hk
      go_enter Tryz.func99, Tryz.ntmps99
      go_wp2_with (first
        | (refine ev_alloc (N := 7) rfl rfl 113 rfl _ zero_tk ?_; intro g2 w3 hg2 R3 B3)
        | (refine ev_store rfl 113 (.tmp 7) _ rfl g2 (tk t).toArray rfl rfl R3 (tk_info _) rfl (tk_one _) rfl ?_; intro w4 R4 S4; have e0 : w4.cell? ⟨g2, 0, none⟩ = some (.int .i64 (t.kind : Int)) := R4.cell 0; have e2 : w4.cell? ⟨g2, 2, none⟩ = some (.int .i64 t.num) := R4.cell 2; have hk := HK.out))
      have hb := Only.stored (Only.of_below (S := fun _ => False) B3) S4 (.inr hg2)
      refine (HM.out w4 (HP.out.only hb (fun h => h) (fun h => h))).mono ?_
      rintro e w5 ⟨hr, O5⟩
      have O := (hb.mono (S' := (· = g)) fun k h => h.elim).trans O5
      rcases hmm : Sc.must 2 [] l with ⟨p, c⟩ | ⟨t, r⟩
      · rw [hmm] at hr
        have he : e = stopE p c := hr
        rw [he]
        unfold stopE
        go_wp2_with fail
        exact ⟨rfl, by rw [HRES.out, hmm]; rfl, O⟩
      · rw [hmm] at hr
        obtain ⟨he, hp⟩ : e = .returned (.agg (tk t).toArray) ∧ PsAt w5 g b r := hr
        rw [he]
        unfold tk
        have hf := tk_num t
        go_wp2_with fail
        go_ret
        exact ⟨by rw [HRES.out, hmm]; exact ⟨rfl, hp⟩, O⟩
end Go.Proofs.YtbhjkddjgikaiaaGreatDoor

namespace Go.Proofs.YtbhjkddjgikaiaaGreatDoor
open Go.RowKit
set_option linter.unusedVariables false
set_option linter.unusedSimpArgs false
/-- what the package variables are, at a later world of which only blocks from a base on have turned -/
theorem glb_only {W0 w w' : World} {S : Nat → Prop} (hM : Glb13 W0) (hB : Below W0.heap.size W0 w) (O : Only S w w') (hs : ∀ k, S k → W0.heap.size ≤ k) : Glb13 w' :=
  hM.below (hB.trans (O.below hB.size fun k hk e => by have := hs k e; omega))
def kindR (g b : Nat) (l : List Lx.Tk) (r : Option Nat) (e : Ending) (w' : World) : Prop :=
  match r with
  | some k => e = .returned (.int .i64 (k : Int)) ∧ PsAt w' g b l.tail
  | none => e = stopE (Sc.hd l).pos 17
set_option maxHeartbeats 2000000 in
set_option maxRecDepth 100000 in
theorem pkind_any (g b : Nat) (l : List Lx.Tk) (W0 w : World) (hM : Glb13 W0) (hB : Below W0.heap.size W0 w) (hg0 : W0.heap.size ≤ g) (h : PsAt w g b l) (hE : Sc.Ended l) :
    Calls Tryz.prog 50 #[.pointer (some ⟨g, 0, none⟩)] w fun e w' => kindR g b l (Sc.kindOf l) e w' ∧ Only (· = g) w w' := by
  obtain ⟨res, hres⟩ : ∃ r, r = Sc.kindOf l := ⟨_, rfl⟩
  rw [← hres]
  have HRES := Lib.hid hres
  have HP := Lib.hid h
  have HE := Lib.hid hE
  have HM : Hid (∀ w', Only (· = g) w w' → Glb13 w') := Lib.hid fun w' O => glb_only hM hB O (fun k e => by have : k = g := e; omega)
  clear hres h hE hM hB
  go_enter Tryz.func50, Tryz.ntmps50
  go_wp2_with fail
  go_loopw [6] (fun kv wr => ∃ k : Nat, k ≤ 8 ∧ kv = .int .i64 (k : Int) ∧ (∀ j, j < k → Sc.isN 1 (Sc.word j) l = false) ∧ PsAt wr g b l ∧ Only (· = g) w wr) (fun kv _ => 8 - (intOf kv).toNat)
  case atStart => exact ⟨0, by omega, rfl, (fun j hj => by omega), HP.out, Only.refl _ _⟩
  case round =>
    obtain ⟨k, hk, rfl, hno, hp, O⟩ := hrel
    have HNO := Lib.hid hno
    have HPR := Lib.hid hp
    have HO := Lib.hid O
    have HK := Lib.hid hk
    clear hno hp O hk
    by_cases hlt : k < 8
    · have i1 : (k : Int) < 8 := by omega
      have e9 : IntKind.i64.wrap ((k : Int) + 1) = (k : Int) + 1 := by rw [IntKind.wrap_i64]; omega
      have HLT := Lib.hid hlt
      clear hlt
      go_wp2_with fail
      refine (word_any k HLT.out wr (HM.out wr HO.out)).mono ?_
      rintro _ wr ⟨rfl, rfl⟩
      go_wp2_with fail
      cases hN : Sc.isN 1 (Sc.word k) l
      · have HN := Lib.hid hN
        clear hN
        refine (next_no 1 (Sc.word k) g b l wr HPR.out HE.out HN.out).mono ?_
        rintro _ w2 ⟨rfl, hp2, O2⟩
        have HP2 := Lib.hid hp2
        have HO2 := Lib.hid (HO.out.trans O2)
        clear hp2 O2
        unfold tk Lx.tk0
        go_wp2_with (first
          | (refine ev_alloc (N := 4) rfl rfl 113 rfl _ zero_tk ?_; intro g2 w3 hg2 R3 B3)
          | (refine ev_store rfl 113 (.tmp 4) _ rfl g2 (tk Lx.tk0).toArray rfl rfl R3 (tk_info _) rfl (tk_one _) rfl ?_; intro w4 R4 S4))
        have hb := Only.stored (Only.of_below (S := fun _ => False) B3) S4 (.inr hg2)
        refine ⟨⟨k + 1, HLT.out, by simp, fun j hj => ?_, HP2.out.only hb (fun h => h) (fun h => h), HO2.out.trans (hb.mono fun k h => h.elim)⟩, by have := HLT.out; simp [intOf]; omega⟩
        by_cases hjk : j < k
        · exact HNO.out j hjk
        · obtain rfl : j = k := by omega
          exact HN.out
      · have HN := Lib.hid hN
        clear hN
        refine (next_yes 1 (Sc.word k) g b l wr HPR.out HE.out (by omega) HN.out).mono ?_
        rintro _ w2 ⟨rfl, hp2, O2⟩
        have HP2 := Lib.hid hp2
        have HO2 := Lib.hid (HO.out.trans O2)
        clear hp2 O2
        generalize Sc.hd l = t
        unfold tk
        go_wp2_with (first
          | (refine ev_alloc (N := 4) rfl rfl 113 rfl _ zero_tk ?_; intro g2 w3 hg2 R3 B3)
          | (refine ev_store rfl 113 (.tmp 4) _ rfl g2 (tk t).toArray rfl rfl R3 (tk_info _) rfl (tk_one _) rfl ?_; intro w4 R4 S4))
        have hb := Only.stored (Only.of_below (S := fun _ => False) B3) S4 (.inr hg2)
        go_ret
        refine ⟨?_, HO2.out.trans (hb.mono fun k h => h.elim)⟩
        rw [HRES.out, Sc.kindOf_some HLT.out HNO.out HN.out]
        exact ⟨rfl, HP2.out.only hb (fun h => h) (fun h => h)⟩
    · have i1 : ¬ (k : Int) < 8 := by omega
      obtain rfl : k = 8 := by have := HK.out; omega
      clear hlt
      go_wp2_with fail
      refine (fail_any 17 g b l wr HPR.out HE.out.ne).mono ?_
      rintro _ _ ⟨rfl, rfl⟩
      unfold stopE
      go_wp2_with fail
      refine ⟨rfl, ?_, HO.out⟩
      rw [HRES.out, Sc.kindOf_none HNO.out]
      rfl
end Go.Proofs.YtbhjkddjgikaiaaGreatDoor

namespace Go.Proofs.YtbhjkddjgikaiaaGreatDoor
open Go.RowKit
set_option linter.unusedVariables false
set_option linter.unusedSimpArgs false
def lenOf : Value → Nat
  | .slice _ n _ => n
  | _ => 0
theorem own_len {w : World} {B n sz : Nat} {e : TypeId} {v : Value} {xs : List Value} (h : w.ownsRow B e sz v n xs) : lenOf v = n := by
  obtain ⟨_, h⟩ := h
  rcases h with ⟨rfl, rfl⟩ | ⟨g, cap, cur, rfl, _⟩ <;> rfl
theorem PsAt.base {w w' : World} {g b B : Nat} {l : List Lx.Tk} (h : PsAt w g b l) (hb : Below B w w') (hg : g < B) (hs : b < B) : PsAt w' g b l :=
  h.only (Only.of_base hb) (by show ¬ B ≤ g; omega) (by show ¬ B ≤ b; omega)
theorem PsAt.bl {w : World} {g b : Nat} {l : List Lx.Tk} (h : PsAt w g b l) (hE : Sc.Ended l) : b < w.heap.size := by
  obtain ⟨off, c, _, hT, _⟩ := h
  exact block_lt_of_cell (hT.hd hE.ne).1
theorem own_only {w w' : World} {S : Nat → Prop} {B n sz : Nat} {e : TypeId} {v : Value} {xs : List Value} (h : w.ownsRow B e sz v n xs) (hb : Only S w w') (hs : ∀ k, S k → k < B) : w'.ownsRow B e sz v n xs :=
  hb.own h fun g hg e2 => by
    have := (ownW_lt h hg).1
    have := hs g e2
    omega
/-- next, either way -/
theorem next_go (k : Nat) (x : List UInt8) (g b : Nat) (l : List Lx.Tk) (w : World) (h : PsAt w g b l) (hE : Sc.Ended l) (hk : k ≠ 0) :
    Calls Tryz.prog 95 #[.pointer (some ⟨g, 0, none⟩), .int .i64 (k : Int), .string ⟨x.toArray⟩] w fun e w' => ∃ t ok, (ok = Sc.isN k x l ∧ t = if ok = true then Sc.hd l else Lx.tk0) ∧ e = .returned (.tuple #[.agg (tk t).toArray, .bool ok]) ∧ PsAt w' g b (if ok = true then l.tail else l) ∧ Only (· = g) w w' := by
  cases hN : Sc.isN k x l
  · refine (next_no k x g b l w h hE hN).mono ?_
    rintro _ w' ⟨rfl, h1, h2⟩
    exact ⟨_, false, ⟨rfl, rfl⟩, rfl, h1, h2⟩
  · refine (next_yes k x g b l w h hE hk hN).mono ?_
    rintro _ w' ⟨rfl, h1, h2⟩
    exact ⟨_, true, ⟨rfl, rfl⟩, rfl, h1, h2⟩
theorem days_step (l : List Lx.Tk) (t : Lx.Tk) (ok : Bool) (h : ok = Sc.isN 3 [] l ∧ t = if ok = true then Sc.hd l else Lx.tk0) (hE : Sc.Ended l) :
    ∃ lr, lr = (if ok = true then l.tail else l) ∧ (ok = true → Sc.daysOf l = (t.day :: (Sc.daysOf lr).1, (Sc.daysOf lr).2)) ∧ (ok = false → Sc.daysOf l = ([], lr)) ∧ Sc.Ended lr ∧ (if ok = true then 1 else 0) + lr.length = l.length := by
  obtain ⟨h1, h2⟩ := h
  have hne := hE.ne
  cases ok
  · exact ⟨_, rfl, fun h => (by cases h), fun _ => Sc.daysOf_no h1.symm hne, hE, by simp⟩
  · refine ⟨_, rfl, fun _ => ?_, fun h => (by cases h), hE.tail (by have := Sc.isN_kind h1.symm; omega), by simp; omega⟩
    rw [if_pos rfl] at h2 ⊢
    rw [h2]
    exact Sc.daysOf_yes h1.symm hne
set_option maxHeartbeats 4000000 in
set_option maxRecDepth 100000 in
theorem days_any (g b : Nat) (l : List Lx.Tk) (w : World) (h : PsAt w g b l) (hE : Sc.Ended l) (hlen : l.length ≤ 70000) :
    Calls Tryz.prog 97 #[.pointer (some ⟨g, 0, none⟩)] w fun e w' => (∃ v, e = .returned v ∧ w'.ownsRow w.heap.size 44 1 v (Sc.daysOf l).1.length (nv .i32 (Sc.daysOf l).1)) ∧ PsAt w' g b (Sc.daysOf l).2 ∧ Only (· = g) w w' := by
  obtain ⟨res, hres⟩ : ∃ r, r = Sc.daysOf l := ⟨_, rfl⟩
  rw [← hres]
  have HRES := Lib.hid hres
  have HP := Lib.hid h
  have HE := Lib.hid hE
  have HL := Lib.hid (And.intro hlen (And.intro h.lt (h.bl hE)))
  clear hres h hE hlen
  go_enter Tryz.func97, Tryz.ntmps97
  go_wp2_with fail
  refine (next_go 3 [] g b l w HP.out HE.out (by omega)).mono ?_
  rintro _ w1 ⟨t, ok, htok, rfl, hp1, O1⟩
  have HTK := Lib.hid htok
  have HP1 := Lib.hid hp1
  have HO1 := Lib.hid O1
  clear htok hp1 O1
  unfold tk
  go_wp2_with (first
    | (refine ev_alloc (N := 4) rfl rfl 113 rfl _ zero_tk ?_; intro g4 w2 hg4 R2 B2)
    | (refine ev_store rfl 113 (.tmp 4) _ rfl g4 (tk t).toArray rfl rfl R2 (tk_info _) rfl (tk_one _) rfl ?_; intro w3 R3 S3))
  have hb := Only.stored (Only.of_below (S := fun _ => False) B2) S3 (.inr hg4)
  have hP3 := HP1.out.only hb (fun h => h) (fun h => h)
  have hO3 := HO1.out.trans (hb.mono (S' := (· = g)) fun k h => h.elim)
  have h4 : w.heap.size ≤ g4 := by have := HO1.out.size; omega
  obtain ⟨lr, hlr, hd1, hd2, hEn⟩ := days_step l t ok HTK.out HE.out
  rw [← hlr] at hP3
  have hrel0 : (ok = true → Sc.daysOf l = ([] ++ t.day :: (Sc.daysOf lr).1, (Sc.daysOf lr).2)) ∧ (ok = false → Sc.daysOf l = ([], lr)) := ⟨hd1, hd2⟩
  have HR0 := Lib.hid (And.intro hrel0 (And.intro hP3 (And.intro hEn (And.intro hO3 (And.intro h4 R3)))))
  clear hrel0 hP3 hEn hO3 h4 R3 hb S3 R2 B2 hd1 hd2 hlr HP1 HO1
  go_loopw [3, 4, 5] (fun ov pv okv wr => ∃ (v : Value) (ds : List Int) (lr : List Lx.Tk) (t : Lx.Tk) (ok : Bool) (g4 : Nat), v = ov ∧ pv = .pointer (some ⟨g4, 0, none⟩) ∧ okv = .bool ok ∧ wr.ownsRow w.heap.size 44 1 v ds.length (nv .i32 ds) ∧ ((ok = true → Sc.daysOf l = (ds ++ t.day :: (Sc.daysOf lr).1, (Sc.daysOf lr).2)) ∧ (ok = false → Sc.daysOf l = (ds, lr))) ∧ PsAt wr g b lr ∧ (Sc.Ended lr ∧ ds.length + ((if ok = true then 1 else 0) + lr.length) = l.length) ∧ Only (· = g) w wr ∧ w.heap.size ≤ g4 ∧ Row wr g4 (tk t).toArray 113) (fun ov _ _ _ => l.length - lenOf ov)
  case atStart =>
    have h := HR0.out
    exact ⟨_, [], _, _, _, _, rfl, rfl, rfl, ⟨rfl, .inl ⟨rfl, rfl⟩⟩, h.1, h.2.1, ⟨h.2.2.1.1, by simpa using h.2.2.1.2⟩, h.2.2.2.1, h.2.2.2.2.1, h.2.2.2.2.2⟩
  case round =>
    clear HR0 HTK
    obtain ⟨ov, ds, lr, t, ok, g4, rfl, rfl, rfl, hown, hrel, hp, hE, O, h4, R4⟩ := hrel
    have HREL := Lib.hid hrel
    have HOWN := Lib.hid hown
    have HPR := Lib.hid hp
    have HER := Lib.hid hE
    have HO := Lib.hid O
    clear hrel hown hp hE O
    cases ok
    · have HD2 := Lib.hid (HREL.out.2 rfl)
      go_wp2_with fail
      go_ret
      refine ⟨⟨_, rfl, ?_⟩, ?_, HO.out⟩
      · rw [HRES.out, HD2.out]
        exact HOWN.out
      · rw [HRES.out, HD2.out]
        exact HPR.out
    · have HD1 := Lib.hid (HREL.out.1 rfl)
      clear HREL
      have HE2 := Lib.hid (show Sc.Ended lr ∧ ds.length + (1 + lr.length) = l.length from HER.out)
      clear HER
      have k3 : wr.cell? ⟨g4, 3, none⟩ = some (.int .i32 t.day) := R4.cell 3
      obtain ⟨v6, w6, hr6, ho6, hb6, hk6⟩ := append_day2 (wr.alloc (.cells #[.int .i32 t.day] 44)) w.heap.size 43 ov ds.length ds (own_alloc HOWN.out _) wr.heap.size t.day (Row.new wr _ _) (by have := HE2.out.2; have := HL.out.1; omega) (by have := (HO.out.alloc (.cells #[.int .i32 t.day] 44)).size; exact this)
      have R46 := hk6 _ _ _ (R4.alloc (.cells #[.int .i32 t.day] 44)) (by decide)
      have BA := below_alloc (below_alloc (Below.refl _ wr) (.cells #[.int .i32 t.day] 44)) (.cells #[.int .i32 t.day] 44)
      have hO6 : Only (· = g) w w6 := (HO.out.alloc (.cells #[.int .i32 t.day] 44)).then_below hb6
      have hP6 : PsAt w6 g b lr := (HPR.out.only ((Only.refl (fun _ => False) wr).alloc (.cells #[.int .i32 t.day] 44)) (fun h => h) (fun h => h)).base hb6 HL.out.2.1 HL.out.2.2
      have HR6 := Lib.hid hr6
      have HQ6 := Lib.hid (And.intro ho6 (And.intro hO6 hP6))
      clear hr6 ho6 hb6 hk6 BA hO6 hP6
      go_wp2_with (first
        | (at_builtin; refine ev_run rfl (run_app_op _ _ _ _ rfl rfl rfl HR6.out) ?_)
        | (refine ev_load (N := 22) rfl rfl 113 (.tmp 4) rfl g4 rfl R46 _ Tryz.underlying113 rfl (tk_info t) ?_)
        | (refine ev_alloc (N := 4) rfl rfl 113 rfl _ zero_tk ?_; intro g5 w7 hg5 R7 B7)
        | (refine ev_store rfl 113 (.tmp 4) _ rfl g5 (tk t).toArray rfl rfl R7 (tk_info _) rfl (tk_one _) rfl ?_; intro w8 R8 S8))
      have hQ := HQ6.out
      have hb8 := Only.stored (Only.of_below (S := fun _ => False) B7) S8 (.inr hg5)
      have h5 : w.heap.size ≤ g5 := by have := hQ.2.1.size; omega
      have hgg : ¬ g5 = g := by have := HL.out.2.1; omega
      have HB8 := Lib.hid hb8
      refine (next_go 3 [] g b lr w8 (hQ.2.2.only hb8 (fun h => h) (fun h => h)) HE2.out.1 (by omega)).mono ?_
      rintro _ w9 ⟨t2, ok2, htok2, rfl, hp9, O9⟩
      have R9 := O9.row R8 hgg
      have HT2 := Lib.hid htok2
      have HP9 := Lib.hid hp9
      have HO9 := Lib.hid O9
      clear htok2 hp9 O9 hb8 hQ S8 B7 R7 R46
      unfold tk
      go_wp2_with (first
        | (refine ev_store rfl 113 (.tmp 4) _ rfl g5 (tk t2).toArray rfl rfl R9 (tk_info _) rfl (tk_one _) rfl ?_; intro w10 R10 S10))
      have hQ := HQ6.out
      have hbA := Only.stored (S := (· = g5)) (Only.refl _ w9) S10 (.inl rfl)
      have hbl := HL.out.2.2
      have hgl := HL.out.2.1
      obtain ⟨l2, hl2, hd1, hd2, hEn⟩ := days_step lr t2 ok2 HT2.out HE2.out.1
      have hp9 := HP9.out
      rw [← hl2] at hp9
      have hO9 : Only (· = g) w w9 := (hQ.2.1.trans (HB8.out.mono fun k h => h.elim)).trans HO9.out
      have how : w10.ownsRow w.heap.size 44 1 v6 (ds ++ [t.day]).length (nv .i32 (ds ++ [t.day])) := by
        have h1 := own_only (own_only hQ.1 HB8.out (fun k h => h.elim)) HO9.out (fun k h => by have : k = g := h; omega)
        rw [List.length_append]
        refine hbA.own h1 (fun q hq e => ?_)
        have e : q = g5 := e
        subst e
        obtain ⟨cs2, hc2⟩ := own_cells h1 hq
        have := hc2.symm.trans R9
        simp at this
      refine ⟨⟨_, ds ++ [t.day], l2, t2, ok2, g5, rfl, rfl, rfl, how, ⟨fun h => ?_, fun h => ?_⟩, hp9.only hbA (show ¬ g = g5 by omega) (show ¬ b = g5 by omega), ⟨hEn.1, ?_⟩, hO9.trans_new hbA (fun i hi e => by have : i = g5 := e; omega), h5, R10⟩, ?_⟩
      · rw [HD1.out, hd1 h]; simp
      · rw [HD1.out, hd2 h]
      · have := HE2.out.2
        have := hEn.2
        rw [List.length_append, List.length_singleton]
        omega
      · rw [own_len HOWN.out, own_len hQ.1]
        have := HE2.out.2
        have := HE2.out.1.ne
        omega
end Go.Proofs.YtbhjkddjgikaiaaGreatDoor
