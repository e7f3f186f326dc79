/-
  Own texts, several in one (Par5, Par6, Par7).
-/
import Derived.Test.YtbhjkddjgikaiaaGreatDoorMrg31
namespace Go.Proofs.YtbhjkddjgikaiaaGreatDoor
open Go.RowKit
set_option linter.unusedVariables false
set_option linter.unusedSimpArgs false
theorem own_slc {w : World} {B n sz : Nat} {e : TypeId} {v : Value} {xs : List Value} (h : w.ownsRow B e sz v n xs) : ∃ p cap, v = .slice p n cap := by
  obtain ⟨_, h⟩ := h
  rcases h with ⟨rfl, rfl⟩ | ⟨g, cap, cur, rfl, _⟩
  · exact ⟨_, _, rfl⟩
  · exact ⟨_, _, rfl⟩
def partsR (B g b : Nat) (r : Except (Nat × Nat) (List (Nat × Nat) × List Lx.Tk)) (e : Ending) (w' : World) : Prop :=
  match r with
  | .ok (ps, l) => (∃ v, e = .returned v ∧ w'.ownsRow B 126 2 v ps.length (ps.flatMap ptv)) ∧ PsAt w' g b l
  | .error (p, c) => e = stopE p c
set_option maxHeartbeats 4000000 in
set_option maxRecDepth 100000 in
theorem parts_any (g b : Nat) (l : List Lx.Tk) (w : World) (h : PsAt w g b l) (hE : Sc.Ended l) :
    Calls Tryz.prog 100 #[.pointer (some ⟨g, 0, none⟩)] w fun e w' => partsR w.heap.size g b (Sc.partsOf 8 l) e w' ∧ Only (· = g) w w' := by
  obtain ⟨res, hres⟩ : ∃ r, r = Sc.partsOf 8 l := ⟨_, rfl⟩
  rw [← hres]
  have HRES := Lib.hid hres
  have HP := Lib.hid h
  have HE := Lib.hid hE
  have HL := Lib.hid (And.intro h.lt (h.bl hE))
  clear hres h hE
  go_enter Tryz.func100, Tryz.ntmps100
  go_wp2_with fail
  go_loopw [3] (fun ov wr => ∃ (v : Value) (ps : List (Nat × Nat)) (lr : List Lx.Tk), v = ov ∧ ps.length ≤ 8 ∧ wr.ownsRow w.heap.size 126 2 v ps.length (ps.flatMap ptv) ∧ res = Sc.preP ps (Sc.partsOf (8 - ps.length) lr) ∧ PsAt wr g b lr ∧ Sc.Ended lr ∧ Only (· = g) w wr) (fun ov _ => 8 - lenOf ov)
  case atStart => exact ⟨_, [], l, rfl, by simp, ⟨rfl, .inl ⟨rfl, rfl⟩⟩, by rw [Sc.preP_nil]; exact HRES.out, HP.out, HE.out, Only.refl _ _⟩
  case round =>
    clear HRES HP HE
    obtain ⟨ov, ps, lr, rfl, hle, hown, hrel, hp, hE, O⟩ := hrel
    obtain ⟨po, co, rfl⟩ := own_slc hown
    have HREL := Lib.hid hrel
    have HOWN := Lib.hid hown
    have HPR := Lib.hid hp
    have HER := Lib.hid hE
    have HO := Lib.hid O
    clear hrel hown hp hE O
    by_cases h8 : ps.length = 8
    · have i8 : (ps.length : Int) = 8 := by omega
      go_wp2_with fail
      refine (fail_any 2 g b lr wr HPR.out HER.out.ne).mono ?_
      rintro _ w1 ⟨rfl, rfl⟩
      unfold stopE
      go_wp2_with fail
      refine ⟨rfl, ?_, HO.out⟩
      rw [HREL.out, h8]
      rfl
    · have i8 : ¬ (ps.length : Int) = 8 := by omega
      have HL8 := Lib.hid (show ps.length < 8 by omega)
      obtain ⟨f, hf⟩ : ∃ f, 8 - ps.length = f + 1 := ⟨7 - ps.length, by omega⟩
      have hrel := HREL.out
      rw [hf] at hrel
      have HREL := Lib.hid hrel
      have HF := Lib.hid hf
      clear hrel hle h8 hf
      go_wp2_with fail
      refine (pnum_any 1 999999 g b lr wr HPR.out HER.out).mono ?_
      rintro e1 w1 ⟨hr1, O1⟩
      have HO1 := Lib.hid (HO.out.trans O1)
      have HO1' := Lib.hid O1
      clear O1
      rcases hn1 : Sc.num 1 999999 lr with ⟨p, c⟩ | ⟨n1, l1⟩
      · rw [hn1] at hr1
        have he : e1 = stopE p c := hr1
        rw [he]
        unfold stopE
        go_wp2_with fail
        refine ⟨rfl, ?_, HO1.out⟩
        rw [HREL.out, Sc.partsOf_err1 hn1]
        rfl
      · rw [hn1] at hr1
        obtain ⟨he, hp1⟩ : e1 = .returned (.int .i64 n1) ∧ PsAt w1 g b l1 := hr1
        rw [he]
        have hk1 := Sc.num_ok hn1 HER.out
        obtain ⟨m1, rfl⟩ := Int.eq_ofNat_of_zero_le (show 0 ≤ n1 by omega)
        have hu : IntKind.u32.wrap (m1 : Int) = (m1 : Int) := by rw [IntKind.wrap_u32]; omega
        have HN1 := Lib.hid hn1
        have HP1 := Lib.hid hp1
        have HK1 := Lib.hid hk1
        clear he hn1 hp1 hk1
        go_wp2_with fail
        refine (pnum_any 1 1000000 g b l1 w1 HP1.out HK1.out.2.2.1).mono ?_
        rintro e2 w2 ⟨hr2, O2⟩
        have HO2 := Lib.hid (HO1.out.trans O2)
        have HO2' := Lib.hid (HO1'.out.trans O2)
        clear O2
        rcases hn2 : Sc.num 1 1000000 l1 with ⟨p, c⟩ | ⟨n2, l2⟩
        · rw [hn2] at hr2
          have he : e2 = stopE p c := hr2
          rw [he]
          unfold stopE
          go_wp2_with fail
          refine ⟨rfl, ?_, HO2.out⟩
          rw [HREL.out, Sc.partsOf_err2 HN1.out hn2]
          rfl
        · rw [hn2] at hr2
          obtain ⟨he, hp2⟩ : e2 = .returned (.int .i64 n2) ∧ PsAt w2 g b l2 := hr2
          rw [he]
          have hk2 := Sc.num_ok hn2 HK1.out.2.2.1
          obtain ⟨m2, rfl⟩ := Int.eq_ofNat_of_zero_le (show 0 ≤ n2 by omega)
          have HN2 := Lib.hid hn2
          have HP2 := Lib.hid hp2
          have HK2 := Lib.hid hk2
          have how2 := own_only HOWN.out HO2'.out (fun k h => by have : k = g := h; have := HL.out.1; omega)
          obtain ⟨v6, w6, hr6, ho6, hb6, hk6⟩ := append_pt (w2.alloc (.cells #[.int .u32 (m1 : Int), .int .i64 (m2 : Int)] 126)) w.heap.size 42 _ ps.length ps (own_alloc how2 _) w2.heap.size (m1, m2) (Row.new w2 _ _) (by have := HL8.out; omega) (HO2.out.alloc (.cells #[.int .u32 (m1 : Int), .int .i64 (m2 : Int)] 126)).size
          have hO6 : Only (· = g) w w6 := (HO2.out.alloc (.cells #[.int .u32 (m1 : Int), .int .i64 (m2 : Int)] 126)).then_below hb6
          have hP6 : PsAt w6 g b l2 := (HP2.out.only ((Only.refl (fun _ => False) w2).alloc (.cells #[.int .u32 (m1 : Int), .int .i64 (m2 : Int)] 126)) (fun h => h) (fun h => h)).base hb6 HL.out.1 HL.out.2
          have HR6 := Lib.hid hr6
          have HQ6 := Lib.hid (And.intro ho6 (And.intro hO6 hP6))
          clear he hn2 hp2 hk2 how2 hr6 ho6 hb6 hk6 hO6 hP6
          go_wp2_with (first
            | (at_builtin; refine ev_run rfl (run_app_op _ _ _ _ rfl rfl rfl HR6.out) ?_))
          refine (next_go 5 [44] g b l2 w6 HQ6.out.2.2 HK2.out.2.2.1 (by omega)).mono ?_
          rintro _ w9 ⟨t2, ok2, htok2, rfl, hp9, O9⟩
          have HT2 := Lib.hid htok2
          have HP9 := Lib.hid hp9
          have HO9 := Lib.hid O9
          clear htok2 hp9 O9
          unfold tk
          have hO9 := HQ6.out.2.1.trans HO9.out
          have how9 := own_only HQ6.out.1 HO9.out (fun k h => by have : k = g := h; have := HL.out.1; omega)
          have HQ9 := Lib.hid (And.intro hO9 how9)
          clear hO9 how9
          cases ok2
          all_goals
            go_wp2_with (first
              | (refine ev_alloc (N := 5) rfl rfl 113 rfl _ zero_tk ?_; intro g5 w7 hg5 R7 B7)
              | (refine ev_store rfl 113 (.tmp 5) _ rfl g5 (tk t2).toArray rfl rfl R7 (tk_info _) rfl (tk_one _) rfl ?_; intro w8 R8 S8))
          · have hb := Only.stored (Only.of_below (S := fun _ => False) B7) S8 (.inr hg5)
            go_ret
            refine ⟨?_, HQ9.out.1.trans (hb.mono fun k h => h.elim)⟩
            rw [HREL.out, Sc.partsOf_last HN1.out HN2.out HT2.out.1.symm]
            refine ⟨⟨_, rfl, ?_⟩, HP9.out.only hb (fun h => h) (fun h => h)⟩
            have h1 := own_only HQ9.out.2 hb (fun k h => h.elim)
            rw [List.length_append]
            exact h1
          · have hb := Only.stored (Only.of_below (S := fun _ => False) B7) S8 (.inr hg5)
            have hk := Sc.isN_kind HT2.out.1.symm
            have h1 := own_only HQ9.out.2 hb (fun k h => h.elim)
            refine ⟨⟨_, ps ++ [(m1, m2)], l2.tail, rfl, by rw [List.length_append]; have := HL8.out; simp; omega, by rw [List.length_append]; exact h1, ?_, HP9.out.only hb (fun h => h) (fun h => h), HK2.out.2.2.1.tail (by omega), HQ9.out.1.trans (hb.mono fun k h => h.elim)⟩, ?_⟩
            · rw [HREL.out, Sc.partsOf_more HN1.out HN2.out HT2.out.1.symm]
              have hf := HF.out
              rw [List.length_append, List.length_singleton, show 8 - (ps.length + 1) = f by omega]
              rfl
            · rw [own_len HOWN.out, own_len HQ9.out.2]
              have := HL8.out
              omega
end Go.Proofs.YtbhjkddjgikaiaaGreatDoor

namespace Go.Proofs.YtbhjkddjgikaiaaGreatDoor
open Go.RowKit
set_option linter.unusedVariables false
set_option linter.unusedSimpArgs false
def opK (k pos : Nat) : Sc.Op := { Sc.op0 with kind := k, pos := pos }
theorem set_only (w : World) (h i : Nat) (v : Value) : Only (· = h) w (w.setCell ⟨h, i, none⟩ v) := (Only.refl (· = h) w).setCell (p := ⟨h, i, none⟩) (.inl rfl) v
def two (g ho : Nat) : Nat → Prop := fun q => q = g ∨ q = ho
def restR (B g b ho pos : Nat) (r : Except (Nat × Nat) (Sc.Op × List Lx.Tk)) (e : Ending) (w' : World) : Prop :=
  match r with
  | .ok (o, l) => e = .returned (.tuple #[]) ∧ PsAt w' g b l ∧ ∃ v1 v2, Row w' ho (opc { o with pos := pos } v1 v2).toArray 48 ∧ PtsAt w' v1 o.parts ∧ NsAt .i32 w' v2 o.starts ∧ ∀ q, (v1.ownBlock = some q ∨ v2.ownBlock = some q) → B ≤ q ∧ q < w'.heap.size
  | .error (p, c) => e = stopE p c
theorem pts_no (w : World) : PtsAt w (.slice none 0 0) [] := ⟨none, 0, rfl, .inl rfl⟩
theorem ns_no (w : World) : NsAt .i32 w (.slice none 0 0) [] := ⟨none, 0, rfl, .inl rfl⟩
theorem own_fresh {w : World} {B n sz : Nat} {e : TypeId} {v : Value} {xs : List Value} (h : w.ownsRow B e sz v n xs) : ∀ q, v.ownBlock = some q → B ≤ q ∧ q < w.heap.size := fun q hq => ownW_lt h hq
set_option maxHeartbeats 4000000 in
set_option maxRecDepth 100000 in
theorem rest_7 (g b ho pos : Nat) (l : List Lx.Tk) (W0 w : World) (hM : Glb13 W0) (hB : Below W0.heap.size W0 w) (hg0 : W0.heap.size ≤ g) (ho0 : W0.heap.size ≤ ho) (h : PsAt w g b l) (hE : Sc.Ended l) (hlen : l.length ≤ 70000) (R : Row w ho (opc (opK 7 pos) (.slice none 0 0) (.slice none 0 0)).toArray 48) (hgo : g ≠ ho) (hbo : b ≠ ho) :
    Calls Tryz.prog 51 #[.pointer (some ⟨g, 0, none⟩), .pointer (some ⟨ho, 0, none⟩)] w fun e w' => restR w.heap.size g b ho pos (Sc.restOf 7 l) e w' ∧ Only (two g ho) w w' := by
  obtain ⟨res, hres⟩ : ∃ r, r = Sc.restOf 7 l := ⟨_, rfl⟩
  rw [← hres]
  have HRES := Lib.hid hres
  have HP := Lib.hid h
  have HE := Lib.hid hE
  have HL := Lib.hid (And.intro h.lt (And.intro (h.bl hE) R.lt))
  have HM : Hid (∀ w', Only (two g ho) w w' → Glb13 w') := Lib.hid fun w' O => glb_only hM hB O (fun k e => by rcases e with e | e <;> omega)
  have HGO := Lib.hid (And.intro hgo hbo)
  have HD := Lib.hid (days_any g b l w h hE hlen)
  have k0 : w.cell? ⟨ho, 0, none⟩ = some (.int .i64 7) := R.cell 0
  have HR := Lib.hid R
  clear hres h hE hM hB R hlen
  go_enter Tryz.func51, Tryz.ntmps51
  go_wp2_with fail
  refine (unit_kind 7 w).mono ?_
  rintro _ w ⟨rfl, rfl⟩
  go_wp2_with fail
  refine HD.out.mono ?_
  rintro _ w1 ⟨⟨v, rfl, how⟩, hp1, O1⟩
  obtain ⟨pv, cv, rfl⟩ := own_slc how
  have R1 := O1.row HR.out (show ¬ ho = g from fun e => HGO.out.1 e.symm)
  have k0 : w1.cell? ⟨ho, 0, none⟩ = some (.int .i64 7) := R1.cell 0
  have k5 : w1.cell? ⟨ho, 5, none⟩ = some (.slice none 0 0) := R1.cell 5
  have z5 := R1.frozen 5
  obtain ⟨ds, hds⟩ : ∃ d, d = Sc.daysOf l := ⟨_, rfl⟩
  rw [← hds] at how hp1 ⊢
  have hE1 := Sc.daysOf_ended l HE.out
  rw [← hds] at hE1
  have S1 : Only (two g ho) w1 (w1.setCell ⟨ho, 5, none⟩ (.slice pv ds.1.length cv)) := (Only.refl _ w1).setCell (.inl (.inr rfl)) _
  have RA : Row (w1.setCell ⟨ho, 5, none⟩ (.slice pv ds.1.length cv)) ho #[.int .i64 7, .int .u32 0, .int .u32 0, .string ⟨#[]⟩, .slice none 0 0, .slice pv ds.1.length cv, .int .i32 0, .int .i64 (pos : Int)] 48 := R1.set 5 _
  have SH : Only (· = ho) w1 (w1.setCell ⟨ho, 5, none⟩ (.slice pv ds.1.length cv)) := set_only _ _ _ _
  have hpA : PsAt (w1.setCell ⟨ho, 5, none⟩ (.slice pv ds.1.length cv)) g b ds.2 := hp1.only SH HGO.out.1 HGO.out.2
  have hownA : (w1.setCell ⟨ho, 5, none⟩ (.slice pv ds.1.length cv)).ownsRow w.heap.size 44 1 (.slice pv ds.1.length cv) ds.1.length (nv .i32 ds.1) := own_only how SH (fun k e => by have : k = ho := e; have := HL.out.2.2; omega)
  have OA : Only (two g ho) w (w1.setCell ⟨ho, 5, none⟩ (.slice pv ds.1.length cv)) := (O1.mono fun k e => .inl e).trans S1
  have kA : (w1.setCell ⟨ho, 5, none⟩ (.slice pv ds.1.length cv)).cell? ⟨ho, 0, none⟩ = some (.int .i64 7) := RA.cell 0
  have HDS := Lib.hid hds
  have HA := Lib.hid (And.intro RA (And.intro hpA (And.intro hownA (And.intro OA hE1))))
  clear RA hpA hownA OA SH S1 O1 hp1 how R1 hds hE1
  go_wp2_with fail
  generalize (w1.setCell ⟨ho, 5, none⟩ (.slice pv ds.1.length cv)) = wA at *
  have hA := HA.out
  refine (link_any 7 (by omega) wA (HM.out wA hA.2.2.2.1)).mono ?_
  rintro _ wA ⟨rfl, rfl⟩
  go_wp2_with fail
  refine (must_any 1 (Sc.link 7) g b ds.2 wA hA.2.1 hA.2.2.2.2.1 (by omega)).mono ?_
  rintro e2 w2 ⟨hr2, O2⟩
  have hres : res = match Sc.must 1 (Sc.link 7) ds.2 with
    | .error e => .error e
    | .ok (_, l1) => match Sc.must 3 [] l1 with
      | .error e => .error e
      | .ok (t, l2) => .ok ({ Sc.op0 with kind := 7, starts := ds.1, fin := t.day }, l2) := by
    rw [HRES.out]
    unfold Sc.restOf
    rw [if_pos rfl, HDS.out]
    rcases Sc.must 1 (Sc.link 7) (Sc.daysOf l).2 with e | ⟨t, l1⟩
    · rfl
    · dsimp only
      rcases Sc.must 3 [] l1 with e | ⟨t, l2⟩ <;> rfl
  rcases hm : Sc.must 1 (Sc.link 7) ds.2 with ⟨p, c⟩ | ⟨t, l1⟩
  · rw [hm] at hr2 hres
    have HRES := Lib.hid hres
    have he : e2 = stopE p c := hr2
    rw [he]
    clear hres hA
    unfold stopE
    go_wp2_with fail
    refine ⟨rfl, ?_, HA.out.2.2.2.1.trans (O2.mono fun k e => .inl e)⟩
    rw [HRES.out]
    rfl
  · rw [hm] at hr2 hres
    obtain ⟨he, hp2⟩ : e2 = .returned (.agg (tk t).toArray) ∧ PsAt w2 g b l1 := hr2
    rw [he]
    have hE2 := Sc.must_ended hm (by omega) hA.2.2.2.2.1
    have HRES := Lib.hid hres
    have HO2 := Lib.hid (And.intro O2 (And.intro hp2 hE2))
    clear hres hA O2 hp2 hE2 hm
    unfold tk
    go_wp2_with fail
    refine (must_any 3 [] g b l1 w2 HO2.out.2.1 HO2.out.2.2.1 (by omega)).mono ?_
    rintro e3 w3 ⟨hr3, O3⟩
    rcases hm : Sc.must 3 [] l1 with ⟨p, c⟩ | ⟨t3, l3⟩
    · have hres := HRES.out
      rw [hm] at hr3 hres
      have HRES := Lib.hid hres
      have he : e3 = stopE p c := hr3
      rw [he]
      clear hres
      unfold stopE
      go_wp2_with fail
      refine ⟨rfl, ?_, (HA.out.2.2.2.1.trans (HO2.out.1.mono fun k e => .inl e)).trans (O3.mono fun k e => .inl e)⟩
      rw [HRES.out]
      rfl
    · have hres := HRES.out
      rw [hm] at hr3 hres
      obtain ⟨he, hp3⟩ : e3 = .returned (.agg (tk t3).toArray) ∧ PsAt w3 g b l3 := hr3
      rw [he]
      have hn : ¬ ho = g := fun e => HGO.out.1 e.symm
      have R3 := O3.row (HO2.out.1.row HA.out.1 hn) hn
      have k6 : w3.cell? ⟨ho, 6, none⟩ = some (.int .i32 0) := R3.cell 6
      have z6 := R3.frozen 6
      have hf := tk_day t3
      have hgl := HL.out.1
      have how3 := own_only (own_only HA.out.2.2.1 HO2.out.1 (fun k e => by have : k = g := e; omega)) O3 (fun k e => by have : k = g := e; omega)
      have HRES := Lib.hid hres
      have H3 := Lib.hid (And.intro R3 (And.intro hp3 (And.intro how3 O3)))
      clear hres R3 hp3 how3 O3 hm hn
      unfold tk
      go_wp2_with fail
      have h3 := H3.out
      have S6 : Only (· = ho) w3 (w3.setCell ⟨ho, 6, none⟩ (.int .i32 t3.day)) := set_only _ _ _ _
      have how6 := own_only h3.2.2.1 S6 (fun k e => by have : k = ho := e; have := HL.out.2.2; omega)
      first | go_end0 | refine bodyPost_ret (results_none rfl _ _ _) rfl ?_
      refine ⟨?_, ((HA.out.2.2.2.1.trans (HO2.out.1.mono fun k e => .inl e)).trans (h3.2.2.2.mono fun k e => .inl e)).trans (S6.mono fun k e => .inr e)⟩
      rw [HRES.out]
      exact ⟨rfl, h3.2.1.only S6 HGO.out.1 HGO.out.2, .slice none 0 0, .slice pv ds.1.length cv, h3.1.set 6 _, pts_no _, (NsAt.of_own how6).1, fun q hq => by
        rcases hq with hq | hq
        · cases hq
        · exact own_fresh how6 q hq⟩
end Go.Proofs.YtbhjkddjgikaiaaGreatDoor

namespace Go.Proofs.YtbhjkddjgikaiaaGreatDoor
open Go.RowKit
set_option linter.unusedVariables false
set_option linter.unusedSimpArgs false
theorem pts_own {w : World} {B : Nat} {v : Value} {l : List (Nat × Nat)} (h : w.ownsRow B 126 2 v l.length (l.flatMap ptv)) : PtsAt w v l := by
  obtain ⟨_, p, cap, rfl, hE⟩ := els_ownG ptv 2 (0, 0) (fun _ => rfl) (by omega) h
  exact ⟨p, cap, rfl, hE⟩
set_option maxHeartbeats 4000000 in
set_option maxRecDepth 100000 in
theorem rest_1 (g b ho pos : Nat) (l : List Lx.Tk) (W0 w : World) (hM : Glb13 W0) (hB : Below W0.heap.size W0 w) (hg0 : W0.heap.size ≤ g) (ho0 : W0.heap.size ≤ ho) (h : PsAt w g b l) (hE : Sc.Ended l) (R : Row w ho (opc (opK 1 pos) (.slice none 0 0) (.slice none 0 0)).toArray 48) (hgo : g ≠ ho) (hbo : b ≠ ho) :
    Calls Tryz.prog 51 #[.pointer (some ⟨g, 0, none⟩), .pointer (some ⟨ho, 0, none⟩)] w fun e w' => restR w.heap.size g b ho pos (Sc.restOf 1 l) e w' ∧ Only (two g ho) w w' := by
  obtain ⟨res, hres⟩ : ∃ r, r = Sc.restOf 1 l := ⟨_, rfl⟩
  rw [← hres]
  have HL := Lib.hid (And.intro h.lt (And.intro (h.bl hE) R.lt))
  have HM : Hid (∀ w', Only (two g ho) w w' → Glb13 w') := Lib.hid fun w' O => glb_only hM hB O (fun k e => by rcases e with e | e <;> omega)
  have HGO := Lib.hid (And.intro hgo hbo)
  have k0 : w.cell? ⟨ho, 0, none⟩ = some (.int .i64 1) := R.cell 0
  have H0 := Lib.hid (And.intro R (And.intro h (And.intro (Only.refl (two g ho) w) hE)))
  have hres2 : res = match Sc.num 1 999999 l with
    | .error e => .error e
    | .ok (n, l1) => match Sc.must 4 [] l1 with
      | .error e => .error e
      | .ok (t, l2) => .ok ({ Sc.op0 with kind := 1, fr := n.toNat, name := t.text }, l2) := by
    rw [hres]
    unfold Sc.restOf
    rw [if_neg (by omega), show Sc.most 1 = 999999 from rfl]
    rcases Sc.num 1 999999 l with e | ⟨n, l1⟩
    · rfl
    · dsimp only
      rcases Sc.must 4 [] l1 with e | ⟨t, l2⟩ <;> rfl
  have HRES := Lib.hid hres2
  clear hres hres2 h hE hM hB R
  go_enter Tryz.func51, Tryz.ntmps51
  go_wp2_with fail
  refine (unit_kind 1 w).mono ?_
  rintro _ w ⟨rfl, rfl⟩
  go_wp2_with fail
  refine (pnum_any 1 999999 g b l w H0.out.2.1 H0.out.2.2.2).mono ?_
  rintro e w1' ⟨hr, O⟩
  rcases hm : Sc.num 1 999999 l with ⟨p, c⟩ | ⟨n, L1⟩
  · have hres := HRES.out
    rw [hm] at hr hres
    have HRES := Lib.hid hres
    have HO := Lib.hid (H0.out.2.2.1.trans (O.mono fun k e => .inl e))
    have he : e = stopE p c := hr
    rw [he]
    clear hres O he hm
    unfold stopE
    go_wp2_with fail
    refine ⟨rfl, ?_, HO.out⟩
    rw [HRES.out]
    rfl
  · have hres := HRES.out
    rw [hm] at hr hres
    obtain ⟨he, hp⟩ : e = .returned (.int .i64 n) ∧ PsAt w1' g b L1 := hr
    rw [he]
    have hk := Sc.num_ok hm H0.out.2.2.2
    have hE2 := hk.2.2.1
    obtain ⟨m1, rfl⟩ := Int.eq_ofNat_of_zero_le (show 0 ≤ n by omega)
    have hu : IntKind.u32.wrap (m1 : Int) = (m1 : Int) := by rw [IntKind.wrap_u32]; omega
    have HRES := Lib.hid hres
    clear hres hk
    have hn : ¬ ho = g := fun e => HGO.out.1 e.symm
    have RB := O.row H0.out.1 hn
    have k1 : w1'.cell? ⟨ho, 1, none⟩ = some (.int .u32 0) := RB.cell 1
    have z1 := RB.frozen 1
    have SH : Only (· = ho) w1' (w1'.setCell ⟨ho, 1, none⟩ (.int .u32 (m1 : Int))) := set_only _ _ _ _
    have RA : Row (w1'.setCell ⟨ho, 1, none⟩ (.int .u32 (m1 : Int))) ho #[.int .i64 1, .int .u32 (m1 : Int), .int .u32 0, .string ⟨#[]⟩, .slice none 0 0, .slice none 0 0, .int .i32 0, .int .i64 (pos : Int)] 48 := RB.set 1 _
    have hpA := hp.only SH HGO.out.1 HGO.out.2
    have OA := (H0.out.2.2.1.trans (O.mono fun k e => .inl e)).trans (SH.mono (S' := two g ho) fun k e => .inr e)
    have kA : (w1'.setCell ⟨ho, 1, none⟩ (.int .u32 (m1 : Int))).cell? ⟨ho, 0, none⟩ = some (.int .i64 1) := RA.cell 0
    have H1 := Lib.hid (And.intro RA (And.intro hpA (And.intro OA hE2)))
    clear RA hpA OA SH RB hp O hE2 hn hm he
    go_wp2_with fail
    generalize (w1'.setCell ⟨ho, 1, none⟩ (.int .u32 (m1 : Int))) = wA at *
    refine (must_any 4 [] g b L1 wA H1.out.2.1 H1.out.2.2.2 (by omega)).mono ?_
    rintro e w2' ⟨hr, O⟩
    rcases hm : Sc.must 4 [] L1 with ⟨p, c⟩ | ⟨t2, L2⟩
    · have hres := HRES.out
      rw [hm] at hr hres
      have HRES := Lib.hid hres
      have HO := Lib.hid (H1.out.2.2.1.trans (O.mono fun k e => .inl e))
      have he : e = stopE p c := hr
      rw [he]
      clear hres O he hm
      unfold stopE
      go_wp2_with fail
      refine ⟨rfl, ?_, HO.out⟩
      rw [HRES.out]
      rfl
    · have hres := HRES.out
      rw [hm] at hr hres
      obtain ⟨he, hp⟩ : e = .returned (.agg (tk t2).toArray) ∧ PsAt w2' g b L2 := hr
      rw [he]
      have hE2 := (Sc.must_ended hm (by omega) H1.out.2.2.2).1
      have HRES := Lib.hid hres
      clear hres
      have hf := tk_text t2
      have hn : ¬ ho = g := fun e => HGO.out.1 e.symm
      have RB := O.row H1.out.1 hn
      have k3 : w2'.cell? ⟨ho, 3, none⟩ = some (.string ⟨#[]⟩) := RB.cell 3
      have z3 := RB.frozen 3
      have SH : Only (· = ho) w2' (w2'.setCell ⟨ho, 3, none⟩ (.string ⟨t2.text.toArray⟩)) := set_only _ _ _ _
      have RA : Row (w2'.setCell ⟨ho, 3, none⟩ (.string ⟨t2.text.toArray⟩)) ho #[.int .i64 1, .int .u32 (m1 : Int), .int .u32 0, .string ⟨t2.text.toArray⟩, .slice none 0 0, .slice none 0 0, .int .i32 0, .int .i64 (pos : Int)] 48 := RB.set 3 _
      have hpA := hp.only SH HGO.out.1 HGO.out.2
      have OA := (H1.out.2.2.1.trans (O.mono fun k e => .inl e)).trans (SH.mono (S' := two g ho) fun k e => .inr e)
      have kA : (w2'.setCell ⟨ho, 3, none⟩ (.string ⟨t2.text.toArray⟩)).cell? ⟨ho, 0, none⟩ = some (.int .i64 1) := RA.cell 0
      have H2 := Lib.hid (And.intro RA (And.intro hpA (And.intro OA hE2)))
      clear RA hpA OA SH RB hp O hE2 hn hm he
      unfold tk
      go_wp2_with fail
      have hF := H2.out
      first | go_end0 | refine bodyPost_ret (results_none rfl _ _ _) rfl ?_
      refine ⟨?_, hF.2.2.1⟩
      rw [HRES.out]
      exact ⟨rfl, hF.2.1, .slice none 0 0, .slice none 0 0, hF.1, pts_no _, ns_no _, fun q hq => by rcases hq with hq | hq <;> cases hq⟩
set_option maxHeartbeats 4000000 in
set_option maxRecDepth 100000 in
theorem rest_4 (g b ho pos : Nat) (l : List Lx.Tk) (W0 w : World) (hM : Glb13 W0) (hB : Below W0.heap.size W0 w) (hg0 : W0.heap.size ≤ g) (ho0 : W0.heap.size ≤ ho) (h : PsAt w g b l) (hE : Sc.Ended l) (R : Row w ho (opc (opK 4 pos) (.slice none 0 0) (.slice none 0 0)).toArray 48) (hgo : g ≠ ho) (hbo : b ≠ ho) :
    Calls Tryz.prog 51 #[.pointer (some ⟨g, 0, none⟩), .pointer (some ⟨ho, 0, none⟩)] w fun e w' => restR w.heap.size g b ho pos (Sc.restOf 4 l) e w' ∧ Only (two g ho) w w' := by
  obtain ⟨res, hres⟩ : ∃ r, r = Sc.restOf 4 l := ⟨_, rfl⟩
  rw [← hres]
  have HL := Lib.hid (And.intro h.lt (And.intro (h.bl hE) R.lt))
  have HM : Hid (∀ w', Only (two g ho) w w' → Glb13 w') := Lib.hid fun w' O => glb_only hM hB O (fun k e => by rcases e with e | e <;> omega)
  have HGO := Lib.hid (And.intro hgo hbo)
  have k0 : w.cell? ⟨ho, 0, none⟩ = some (.int .i64 4) := R.cell 0
  have H0 := Lib.hid (And.intro R (And.intro h (And.intro (Only.refl (two g ho) w) hE)))
  have hres2 : res = match Sc.num 1 999999 l with
    | .error e => .error e
    | .ok (n, l1) => match Sc.must 1 (Sc.link 4) l1 with
      | .error e => .error e
      | .ok (_, l2) => match Sc.partsOf 8 l2 with
        | .error e => .error e
        | .ok (ps, l3) => .ok ({ Sc.op0 with kind := 4, fr := n.toNat, parts := ps }, l3) := by
    rw [hres]
    unfold Sc.restOf
    rw [if_neg (by omega), show Sc.most 4 = 999999 from rfl]
    rcases Sc.num 1 999999 l with e | ⟨n, l1⟩
    · rfl
    · dsimp only
      rcases Sc.must 1 (Sc.link 4) l1 with e | ⟨t, l2⟩
      · rfl
      · dsimp only
        rcases Sc.partsOf 8 l2 with e | ⟨ps, l3⟩ <;> rfl
  have HRES := Lib.hid hres2
  clear hres hres2 h hE hM hB R
  go_enter Tryz.func51, Tryz.ntmps51
  go_wp2_with fail
  refine (unit_kind 4 w).mono ?_
  rintro _ w ⟨rfl, rfl⟩
  go_wp2_with fail
  refine (pnum_any 1 999999 g b l w H0.out.2.1 H0.out.2.2.2).mono ?_
  rintro e w1' ⟨hr, O⟩
  rcases hm : Sc.num 1 999999 l with ⟨p, c⟩ | ⟨n, L1⟩
  · have hres := HRES.out
    rw [hm] at hr hres
    have HRES := Lib.hid hres
    have HO := Lib.hid (H0.out.2.2.1.trans (O.mono fun k e => .inl e))
    have he : e = stopE p c := hr
    rw [he]
    clear hres O he hm
    unfold stopE
    go_wp2_with fail
    refine ⟨rfl, ?_, HO.out⟩
    rw [HRES.out]
    rfl
  · have hres := HRES.out
    rw [hm] at hr hres
    obtain ⟨he, hp⟩ : e = .returned (.int .i64 n) ∧ PsAt w1' g b L1 := hr
    rw [he]
    have hk := Sc.num_ok hm H0.out.2.2.2
    have hE2 := hk.2.2.1
    obtain ⟨m1, rfl⟩ := Int.eq_ofNat_of_zero_le (show 0 ≤ n by omega)
    have hu : IntKind.u32.wrap (m1 : Int) = (m1 : Int) := by rw [IntKind.wrap_u32]; omega
    have HRES := Lib.hid hres
    clear hres hk
    have hn : ¬ ho = g := fun e => HGO.out.1 e.symm
    have RB := O.row H0.out.1 hn
    have k1 : w1'.cell? ⟨ho, 1, none⟩ = some (.int .u32 0) := RB.cell 1
    have z1 := RB.frozen 1
    have SH : Only (· = ho) w1' (w1'.setCell ⟨ho, 1, none⟩ (.int .u32 (m1 : Int))) := set_only _ _ _ _
    have RA : Row (w1'.setCell ⟨ho, 1, none⟩ (.int .u32 (m1 : Int))) ho #[.int .i64 4, .int .u32 (m1 : Int), .int .u32 0, .string ⟨#[]⟩, .slice none 0 0, .slice none 0 0, .int .i32 0, .int .i64 (pos : Int)] 48 := RB.set 1 _
    have hpA := hp.only SH HGO.out.1 HGO.out.2
    have OA := (H0.out.2.2.1.trans (O.mono fun k e => .inl e)).trans (SH.mono (S' := two g ho) fun k e => .inr e)
    have kA : (w1'.setCell ⟨ho, 1, none⟩ (.int .u32 (m1 : Int))).cell? ⟨ho, 0, none⟩ = some (.int .i64 4) := RA.cell 0
    have H1 := Lib.hid (And.intro RA (And.intro hpA (And.intro OA hE2)))
    clear RA hpA OA SH RB hp O hE2 hn hm he
    go_wp2_with fail
    generalize (w1'.setCell ⟨ho, 1, none⟩ (.int .u32 (m1 : Int))) = wA at *
    refine (link_any 4 (by omega) wA (HM.out wA H1.out.2.2.1)).mono ?_
    rintro _ wA ⟨rfl, rfl⟩
    go_wp2_with fail
    refine (must_any 1 (Sc.link 4) g b L1 wA H1.out.2.1 H1.out.2.2.2 (by omega)).mono ?_
    rintro e w2' ⟨hr, O⟩
    rcases hm : Sc.must 1 (Sc.link 4) L1 with ⟨p, c⟩ | ⟨t2, L2⟩
    · have hres := HRES.out
      rw [hm] at hr hres
      have HRES := Lib.hid hres
      have HO := Lib.hid (H1.out.2.2.1.trans (O.mono fun k e => .inl e))
      have he : e = stopE p c := hr
      rw [he]
      clear hres O he hm
      unfold stopE
      go_wp2_with fail
      refine ⟨rfl, ?_, HO.out⟩
      rw [HRES.out]
      rfl
    · have hres := HRES.out
      rw [hm] at hr hres
      obtain ⟨he, hp⟩ : e = .returned (.agg (tk t2).toArray) ∧ PsAt w2' g b L2 := hr
      rw [he]
      have hE2 := (Sc.must_ended hm (by omega) H1.out.2.2.2).1
      have HRES := Lib.hid hres
      clear hres
      have RB := O.row H1.out.1 (show ¬ ho = g from fun e => HGO.out.1 e.symm)
      have kA : w2'.cell? ⟨ho, 0, none⟩ = some (.int .i64 4) := RB.cell 0
      have OA := H1.out.2.2.1.trans (O.mono (S' := two g ho) fun k e => .inl e)
      have H2 := Lib.hid (And.intro RB (And.intro hp (And.intro OA hE2)))
      clear RB hp OA O hE2 hm he
      unfold tk
      go_wp2_with fail
      refine (parts_any g b L2 w2' H2.out.2.1 H2.out.2.2.2).mono ?_
      rintro e w3' ⟨hr, O⟩
      rcases hm : Sc.partsOf 8 L2 with ⟨p, c⟩ | ⟨ps, L3⟩
      · have hres := HRES.out
        rw [hm] at hr hres
        have HRES := Lib.hid hres
        have HO := Lib.hid (H2.out.2.2.1.trans (O.mono fun k e => .inl e))
        have he : e = stopE p c := hr
        rw [he]
        clear hres O he hm
        unfold stopE
        go_wp2_with fail
        refine ⟨rfl, ?_, HO.out⟩
        rw [HRES.out]
        rfl
      · have hres := HRES.out
        rw [hm] at hr hres
        obtain ⟨⟨v, he, how⟩, hp⟩ : (∃ v, e = .returned v ∧ w3'.ownsRow w2'.heap.size 126 2 v ps.length (ps.flatMap ptv)) ∧ PsAt w3' g b L3 := hr
        obtain ⟨pv, cv, rfl⟩ := own_slc how
        rw [he]
        have hE2 := (Sc.partsOf_ok 8 _ _ _ hm H2.out.2.2.2).1
        have HRES := Lib.hid hres
        clear hres
        have hn : ¬ ho = g := fun e => HGO.out.1 e.symm
        have RB := O.row H2.out.1 hn
        have k4 : w3'.cell? ⟨ho, 4, none⟩ = some (.slice none 0 0) := RB.cell 4
        have z4 := RB.frozen 4
        have SH : Only (· = ho) w3' (w3'.setCell ⟨ho, 4, none⟩ (.slice pv ps.length cv)) := set_only _ _ _ _
        have RA : Row (w3'.setCell ⟨ho, 4, none⟩ (.slice pv ps.length cv)) ho #[.int .i64 4, .int .u32 (m1 : Int), .int .u32 0, .string ⟨#[]⟩, .slice pv ps.length cv, .slice none 0 0, .int .i32 0, .int .i64 (pos : Int)] 48 := RB.set 4 _
        have hpA := hp.only SH HGO.out.1 HGO.out.2
        have OA := (H2.out.2.2.1.trans (O.mono fun k e => .inl e)).trans (SH.mono (S' := two g ho) fun k e => .inr e)
        have kA : (w3'.setCell ⟨ho, 4, none⟩ (.slice pv ps.length cv)).cell? ⟨ho, 0, none⟩ = some (.int .i64 4) := RA.cell 0
        have H3 := Lib.hid (And.intro RA (And.intro hpA (And.intro OA hE2)))
        have how6 := own_only how SH (fun k e => by have : k = ho := e; have := HL.out.2.2; have := H2.out.2.2.1.size; omega)
        have HOW := Lib.hid (And.intro how6 (H2.out.2.2.1.size))
        clear how how6
        clear RA hpA OA SH RB hp O hE2 hn hm he
        go_wp2_with fail
        have hF := H3.out
        first | go_end0 | refine bodyPost_ret (results_none rfl _ _ _) rfl ?_
        refine ⟨?_, hF.2.2.1⟩
        rw [HRES.out]
        exact ⟨rfl, hF.2.1, .slice pv ps.length cv, .slice none 0 0, hF.1, pts_own HOW.out.1, ns_no _, fun q hq => by
          rcases hq with hq | hq
          · exact ⟨Nat.le_trans HOW.out.2 (own_fresh HOW.out.1 q hq).1, (own_fresh HOW.out.1 q hq).2⟩
          · cases hq⟩
set_option maxHeartbeats 4000000 in
set_option maxRecDepth 100000 in
theorem rest_0 (g b ho pos : Nat) (l : List Lx.Tk) (W0 w : World) (hM : Glb13 W0) (hB : Below W0.heap.size W0 w) (hg0 : W0.heap.size ≤ g) (ho0 : W0.heap.size ≤ ho) (h : PsAt w g b l) (hE : Sc.Ended l) (R : Row w ho (opc (opK 0 pos) (.slice none 0 0) (.slice none 0 0)).toArray 48) (hgo : g ≠ ho) (hbo : b ≠ ho) :
    Calls Tryz.prog 51 #[.pointer (some ⟨g, 0, none⟩), .pointer (some ⟨ho, 0, none⟩)] w fun e w' => restR w.heap.size g b ho pos (Sc.restOf 0 l) e w' ∧ Only (two g ho) w w' := by
  obtain ⟨res, hres⟩ : ∃ r, r = Sc.restOf 0 l := ⟨_, rfl⟩
  rw [← hres]
  have HL := Lib.hid (And.intro h.lt (And.intro (h.bl hE) R.lt))
  have HM : Hid (∀ w', Only (two g ho) w w' → Glb13 w') := Lib.hid fun w' O => glb_only hM hB O (fun k e => by rcases e with e | e <;> omega)
  have HGO := Lib.hid (And.intro hgo hbo)
  have k0 : w.cell? ⟨ho, 0, none⟩ = some (.int .i64 0) := R.cell 0
  have H0 := Lib.hid (And.intro R (And.intro h (And.intro (Only.refl (two g ho) w) hE)))
  have hres2 : res = match Sc.num 1 999999 l with
    | .error e => .error e
    | .ok (n, l1) => match Sc.must 1 (Sc.link 0) l1 with
      | .error e => .error e
      | .ok (_, l2) => match Sc.num 1 999999 l2 with
        | .error e => .error e
        | .ok (m, l3) => .ok ({ Sc.op0 with kind := 0, fr := n.toNat, too := m.toNat }, l3) := by
    rw [hres]
    unfold Sc.restOf
    rw [if_neg (by omega), show Sc.most 0 = 999999 from rfl, show Sc.least 0 = 1 from rfl]
    rcases Sc.num 1 999999 l with e | ⟨n, l1⟩
    · rfl
    · dsimp only
      rcases Sc.must 1 (Sc.link 0) l1 with e | ⟨t, l2⟩
      · rfl
      · dsimp only
        rcases Sc.num 1 999999 l2 with e | ⟨m, l3⟩ <;> rfl
  have HRES := Lib.hid hres2
  clear hres hres2 h hE hM hB R
  go_enter Tryz.func51, Tryz.ntmps51
  go_wp2_with fail
  refine (unit_kind 0 w).mono ?_
  rintro _ w ⟨rfl, rfl⟩
  go_wp2_with fail
  refine (pnum_any 1 999999 g b l w H0.out.2.1 H0.out.2.2.2).mono ?_
  rintro e w1' ⟨hr, O⟩
  rcases hm : Sc.num 1 999999 l with ⟨p, c⟩ | ⟨n, L1⟩
  · have hres := HRES.out
    rw [hm] at hr hres
    have HRES := Lib.hid hres
    have HO := Lib.hid (H0.out.2.2.1.trans (O.mono fun k e => .inl e))
    have he : e = stopE p c := hr
    rw [he]
    clear hres O he hm
    unfold stopE
    go_wp2_with fail
    refine ⟨rfl, ?_, HO.out⟩
    rw [HRES.out]
    rfl
  · have hres := HRES.out
    rw [hm] at hr hres
    obtain ⟨he, hp⟩ : e = .returned (.int .i64 n) ∧ PsAt w1' g b L1 := hr
    rw [he]
    have hk := Sc.num_ok hm H0.out.2.2.2
    have hE2 := hk.2.2.1
    obtain ⟨m1, rfl⟩ := Int.eq_ofNat_of_zero_le (show 0 ≤ n by omega)
    have hu : IntKind.u32.wrap (m1 : Int) = (m1 : Int) := by rw [IntKind.wrap_u32]; omega
    have HRES := Lib.hid hres
    clear hres hk
    have hn : ¬ ho = g := fun e => HGO.out.1 e.symm
    have RB := O.row H0.out.1 hn
    have k1 : w1'.cell? ⟨ho, 1, none⟩ = some (.int .u32 0) := RB.cell 1
    have z1 := RB.frozen 1
    have SH : Only (· = ho) w1' (w1'.setCell ⟨ho, 1, none⟩ (.int .u32 (m1 : Int))) := set_only _ _ _ _
    have RA : Row (w1'.setCell ⟨ho, 1, none⟩ (.int .u32 (m1 : Int))) ho #[.int .i64 0, .int .u32 (m1 : Int), .int .u32 0, .string ⟨#[]⟩, .slice none 0 0, .slice none 0 0, .int .i32 0, .int .i64 (pos : Int)] 48 := RB.set 1 _
    have hpA := hp.only SH HGO.out.1 HGO.out.2
    have OA := (H0.out.2.2.1.trans (O.mono fun k e => .inl e)).trans (SH.mono (S' := two g ho) fun k e => .inr e)
    have kA : (w1'.setCell ⟨ho, 1, none⟩ (.int .u32 (m1 : Int))).cell? ⟨ho, 0, none⟩ = some (.int .i64 0) := RA.cell 0
    have H1 := Lib.hid (And.intro RA (And.intro hpA (And.intro OA hE2)))
    clear RA hpA OA SH RB hp O hE2 hn hm he
    go_wp2_with fail
    generalize (w1'.setCell ⟨ho, 1, none⟩ (.int .u32 (m1 : Int))) = wA at *
    refine (link_any 0 (by omega) wA (HM.out wA H1.out.2.2.1)).mono ?_
    rintro _ wA ⟨rfl, rfl⟩
    go_wp2_with fail
    refine (must_any 1 (Sc.link 0) g b L1 wA H1.out.2.1 H1.out.2.2.2 (by omega)).mono ?_
    rintro e w2' ⟨hr, O⟩
    rcases hm : Sc.must 1 (Sc.link 0) L1 with ⟨p, c⟩ | ⟨t2, L2⟩
    · have hres := HRES.out
      rw [hm] at hr hres
      have HRES := Lib.hid hres
      have HO := Lib.hid (H1.out.2.2.1.trans (O.mono fun k e => .inl e))
      have he : e = stopE p c := hr
      rw [he]
      clear hres O he hm
      unfold stopE
      go_wp2_with fail
      refine ⟨rfl, ?_, HO.out⟩
      rw [HRES.out]
      rfl
    · have hres := HRES.out
      rw [hm] at hr hres
      obtain ⟨he, hp⟩ : e = .returned (.agg (tk t2).toArray) ∧ PsAt w2' g b L2 := hr
      rw [he]
      have hE2 := (Sc.must_ended hm (by omega) H1.out.2.2.2).1
      have HRES := Lib.hid hres
      clear hres
      have RB := O.row H1.out.1 (show ¬ ho = g from fun e => HGO.out.1 e.symm)
      have kA : w2'.cell? ⟨ho, 0, none⟩ = some (.int .i64 0) := RB.cell 0
      have OA := H1.out.2.2.1.trans (O.mono (S' := two g ho) fun k e => .inl e)
      have H2 := Lib.hid (And.intro RB (And.intro hp (And.intro OA hE2)))
      clear RB hp OA O hE2 hm he
      unfold tk
      go_wp2_with fail
      refine (pnum_any 1 999999 g b L2 w2' H2.out.2.1 H2.out.2.2.2).mono ?_
      rintro e w3' ⟨hr, O⟩
      rcases hm : Sc.num 1 999999 L2 with ⟨p, c⟩ | ⟨n, L3⟩
      · have hres := HRES.out
        rw [hm] at hr hres
        have HRES := Lib.hid hres
        have HO := Lib.hid (H2.out.2.2.1.trans (O.mono fun k e => .inl e))
        have he : e = stopE p c := hr
        rw [he]
        clear hres O he hm
        unfold stopE
        go_wp2_with fail
        refine ⟨rfl, ?_, HO.out⟩
        rw [HRES.out]
        rfl
      · have hres := HRES.out
        rw [hm] at hr hres
        obtain ⟨he, hp⟩ : e = .returned (.int .i64 n) ∧ PsAt w3' g b L3 := hr
        rw [he]
        have hk := Sc.num_ok hm H2.out.2.2.2
        have hE2 := hk.2.2.1
        obtain ⟨m2, rfl⟩ := Int.eq_ofNat_of_zero_le (show 0 ≤ n by omega)
        have hu : IntKind.u32.wrap (m2 : Int) = (m2 : Int) := by rw [IntKind.wrap_u32]; omega
        have HRES := Lib.hid hres
        clear hres hk
        have hn : ¬ ho = g := fun e => HGO.out.1 e.symm
        have RB := O.row H2.out.1 hn
        have k2 : w3'.cell? ⟨ho, 2, none⟩ = some (.int .u32 0) := RB.cell 2
        have z2 := RB.frozen 2
        have SH : Only (· = ho) w3' (w3'.setCell ⟨ho, 2, none⟩ (.int .u32 (m2 : Int))) := set_only _ _ _ _
        have RA : Row (w3'.setCell ⟨ho, 2, none⟩ (.int .u32 (m2 : Int))) ho #[.int .i64 0, .int .u32 (m1 : Int), .int .u32 (m2 : Int), .string ⟨#[]⟩, .slice none 0 0, .slice none 0 0, .int .i32 0, .int .i64 (pos : Int)] 48 := RB.set 2 _
        have hpA := hp.only SH HGO.out.1 HGO.out.2
        have OA := (H2.out.2.2.1.trans (O.mono fun k e => .inl e)).trans (SH.mono (S' := two g ho) fun k e => .inr e)
        have kA : (w3'.setCell ⟨ho, 2, none⟩ (.int .u32 (m2 : Int))).cell? ⟨ho, 0, none⟩ = some (.int .i64 0) := RA.cell 0
        have H3 := Lib.hid (And.intro RA (And.intro hpA (And.intro OA hE2)))
        clear RA hpA OA SH RB hp O hE2 hn hm he
        go_wp2_with fail
        have hF := H3.out
        first | go_end0 | refine bodyPost_ret (results_none rfl _ _ _) rfl ?_
        refine ⟨?_, hF.2.2.1⟩
        rw [HRES.out]
        exact ⟨rfl, hF.2.1, .slice none 0 0, .slice none 0 0, hF.1, pts_no _, ns_no _, fun q hq => by rcases hq with hq | hq <;> cases hq⟩
set_option maxHeartbeats 4000000 in
set_option maxRecDepth 100000 in
theorem rest_2 (g b ho pos : Nat) (l : List Lx.Tk) (W0 w : World) (hM : Glb13 W0) (hB : Below W0.heap.size W0 w) (hg0 : W0.heap.size ≤ g) (ho0 : W0.heap.size ≤ ho) (h : PsAt w g b l) (hE : Sc.Ended l) (R : Row w ho (opc (opK 2 pos) (.slice none 0 0) (.slice none 0 0)).toArray 48) (hgo : g ≠ ho) (hbo : b ≠ ho) :
    Calls Tryz.prog 51 #[.pointer (some ⟨g, 0, none⟩), .pointer (some ⟨ho, 0, none⟩)] w fun e w' => restR w.heap.size g b ho pos (Sc.restOf 2 l) e w' ∧ Only (two g ho) w w' := by
  obtain ⟨res, hres⟩ : ∃ r, r = Sc.restOf 2 l := ⟨_, rfl⟩
  rw [← hres]
  have HL := Lib.hid (And.intro h.lt (And.intro (h.bl hE) R.lt))
  have HM : Hid (∀ w', Only (two g ho) w w' → Glb13 w') := Lib.hid fun w' O => glb_only hM hB O (fun k e => by rcases e with e | e <;> omega)
  have HGO := Lib.hid (And.intro hgo hbo)
  have k0 : w.cell? ⟨ho, 0, none⟩ = some (.int .i64 2) := R.cell 0
  have H0 := Lib.hid (And.intro R (And.intro h (And.intro (Only.refl (two g ho) w) hE)))
  have hres2 : res = match Sc.num 1 999999 l with
    | .error e => .error e
    | .ok (n, l1) => match Sc.must 1 (Sc.link 2) l1 with
      | .error e => .error e
      | .ok (_, l2) => match Sc.num 0 999999 l2 with
        | .error e => .error e
        | .ok (m, l3) => .ok ({ Sc.op0 with kind := 2, fr := n.toNat, too := m.toNat }, l3) := by
    rw [hres]
    unfold Sc.restOf
    rw [if_neg (by omega), show Sc.most 2 = 999999 from rfl, show Sc.least 2 = 0 from rfl]
    rcases Sc.num 1 999999 l with e | ⟨n, l1⟩
    · rfl
    · dsimp only
      rcases Sc.must 1 (Sc.link 2) l1 with e | ⟨t, l2⟩
      · rfl
      · dsimp only
        rcases Sc.num 0 999999 l2 with e | ⟨m, l3⟩ <;> rfl
  have HRES := Lib.hid hres2
  clear hres hres2 h hE hM hB R
  go_enter Tryz.func51, Tryz.ntmps51
  go_wp2_with fail
  refine (unit_kind 2 w).mono ?_
  rintro _ w ⟨rfl, rfl⟩
  go_wp2_with fail
  refine (pnum_any 1 999999 g b l w H0.out.2.1 H0.out.2.2.2).mono ?_
  rintro e w1' ⟨hr, O⟩
  rcases hm : Sc.num 1 999999 l with ⟨p, c⟩ | ⟨n, L1⟩
  · have hres := HRES.out
    rw [hm] at hr hres
    have HRES := Lib.hid hres
    have HO := Lib.hid (H0.out.2.2.1.trans (O.mono fun k e => .inl e))
    have he : e = stopE p c := hr
    rw [he]
    clear hres O he hm
    unfold stopE
    go_wp2_with fail
    refine ⟨rfl, ?_, HO.out⟩
    rw [HRES.out]
    rfl
  · have hres := HRES.out
    rw [hm] at hr hres
    obtain ⟨he, hp⟩ : e = .returned (.int .i64 n) ∧ PsAt w1' g b L1 := hr
    rw [he]
    have hk := Sc.num_ok hm H0.out.2.2.2
    have hE2 := hk.2.2.1
    obtain ⟨m1, rfl⟩ := Int.eq_ofNat_of_zero_le (show 0 ≤ n by omega)
    have hu : IntKind.u32.wrap (m1 : Int) = (m1 : Int) := by rw [IntKind.wrap_u32]; omega
    have HRES := Lib.hid hres
    clear hres hk
    have hn : ¬ ho = g := fun e => HGO.out.1 e.symm
    have RB := O.row H0.out.1 hn
    have k1 : w1'.cell? ⟨ho, 1, none⟩ = some (.int .u32 0) := RB.cell 1
    have z1 := RB.frozen 1
    have SH : Only (· = ho) w1' (w1'.setCell ⟨ho, 1, none⟩ (.int .u32 (m1 : Int))) := set_only _ _ _ _
    have RA : Row (w1'.setCell ⟨ho, 1, none⟩ (.int .u32 (m1 : Int))) ho #[.int .i64 2, .int .u32 (m1 : Int), .int .u32 0, .string ⟨#[]⟩, .slice none 0 0, .slice none 0 0, .int .i32 0, .int .i64 (pos : Int)] 48 := RB.set 1 _
    have hpA := hp.only SH HGO.out.1 HGO.out.2
    have OA := (H0.out.2.2.1.trans (O.mono fun k e => .inl e)).trans (SH.mono (S' := two g ho) fun k e => .inr e)
    have kA : (w1'.setCell ⟨ho, 1, none⟩ (.int .u32 (m1 : Int))).cell? ⟨ho, 0, none⟩ = some (.int .i64 2) := RA.cell 0
    have H1 := Lib.hid (And.intro RA (And.intro hpA (And.intro OA hE2)))
    clear RA hpA OA SH RB hp O hE2 hn hm he
    go_wp2_with fail
    generalize (w1'.setCell ⟨ho, 1, none⟩ (.int .u32 (m1 : Int))) = wA at *
    refine (link_any 2 (by omega) wA (HM.out wA H1.out.2.2.1)).mono ?_
    rintro _ wA ⟨rfl, rfl⟩
    go_wp2_with fail
    refine (must_any 1 (Sc.link 2) g b L1 wA H1.out.2.1 H1.out.2.2.2 (by omega)).mono ?_
    rintro e w2' ⟨hr, O⟩
    rcases hm : Sc.must 1 (Sc.link 2) L1 with ⟨p, c⟩ | ⟨t2, L2⟩
    · have hres := HRES.out
      rw [hm] at hr hres
      have HRES := Lib.hid hres
      have HO := Lib.hid (H1.out.2.2.1.trans (O.mono fun k e => .inl e))
      have he : e = stopE p c := hr
      rw [he]
      clear hres O he hm
      unfold stopE
      go_wp2_with fail
      refine ⟨rfl, ?_, HO.out⟩
      rw [HRES.out]
      rfl
    · have hres := HRES.out
      rw [hm] at hr hres
      obtain ⟨he, hp⟩ : e = .returned (.agg (tk t2).toArray) ∧ PsAt w2' g b L2 := hr
      rw [he]
      have hE2 := (Sc.must_ended hm (by omega) H1.out.2.2.2).1
      have HRES := Lib.hid hres
      clear hres
      have RB := O.row H1.out.1 (show ¬ ho = g from fun e => HGO.out.1 e.symm)
      have kA : w2'.cell? ⟨ho, 0, none⟩ = some (.int .i64 2) := RB.cell 0
      have OA := H1.out.2.2.1.trans (O.mono (S' := two g ho) fun k e => .inl e)
      have H2 := Lib.hid (And.intro RB (And.intro hp (And.intro OA hE2)))
      clear RB hp OA O hE2 hm he
      unfold tk
      go_wp2_with fail
      refine (pnum_any 0 999999 g b L2 w2' H2.out.2.1 H2.out.2.2.2).mono ?_
      rintro e w3' ⟨hr, O⟩
      rcases hm : Sc.num 0 999999 L2 with ⟨p, c⟩ | ⟨n, L3⟩
      · have hres := HRES.out
        rw [hm] at hr hres
        have HRES := Lib.hid hres
        have HO := Lib.hid (H2.out.2.2.1.trans (O.mono fun k e => .inl e))
        have he : e = stopE p c := hr
        rw [he]
        clear hres O he hm
        unfold stopE
        go_wp2_with fail
        refine ⟨rfl, ?_, HO.out⟩
        rw [HRES.out]
        rfl
      · have hres := HRES.out
        rw [hm] at hr hres
        obtain ⟨he, hp⟩ : e = .returned (.int .i64 n) ∧ PsAt w3' g b L3 := hr
        rw [he]
        have hk := Sc.num_ok hm H2.out.2.2.2
        have hE2 := hk.2.2.1
        obtain ⟨m2, rfl⟩ := Int.eq_ofNat_of_zero_le (show 0 ≤ n by omega)
        have hu : IntKind.u32.wrap (m2 : Int) = (m2 : Int) := by rw [IntKind.wrap_u32]; omega
        have HRES := Lib.hid hres
        clear hres hk
        have hn : ¬ ho = g := fun e => HGO.out.1 e.symm
        have RB := O.row H2.out.1 hn
        have k2 : w3'.cell? ⟨ho, 2, none⟩ = some (.int .u32 0) := RB.cell 2
        have z2 := RB.frozen 2
        have SH : Only (· = ho) w3' (w3'.setCell ⟨ho, 2, none⟩ (.int .u32 (m2 : Int))) := set_only _ _ _ _
        have RA : Row (w3'.setCell ⟨ho, 2, none⟩ (.int .u32 (m2 : Int))) ho #[.int .i64 2, .int .u32 (m1 : Int), .int .u32 (m2 : Int), .string ⟨#[]⟩, .slice none 0 0, .slice none 0 0, .int .i32 0, .int .i64 (pos : Int)] 48 := RB.set 2 _
        have hpA := hp.only SH HGO.out.1 HGO.out.2
        have OA := (H2.out.2.2.1.trans (O.mono fun k e => .inl e)).trans (SH.mono (S' := two g ho) fun k e => .inr e)
        have kA : (w3'.setCell ⟨ho, 2, none⟩ (.int .u32 (m2 : Int))).cell? ⟨ho, 0, none⟩ = some (.int .i64 2) := RA.cell 0
        have H3 := Lib.hid (And.intro RA (And.intro hpA (And.intro OA hE2)))
        clear RA hpA OA SH RB hp O hE2 hn hm he
        go_wp2_with fail
        have hF := H3.out
        first | go_end0 | refine bodyPost_ret (results_none rfl _ _ _) rfl ?_
        refine ⟨?_, hF.2.2.1⟩
        rw [HRES.out]
        exact ⟨rfl, hF.2.1, .slice none 0 0, .slice none 0 0, hF.1, pts_no _, ns_no _, fun q hq => by rcases hq with hq | hq <;> cases hq⟩
set_option maxHeartbeats 4000000 in
set_option maxRecDepth 100000 in
theorem rest_3 (g b ho pos : Nat) (l : List Lx.Tk) (W0 w : World) (hM : Glb13 W0) (hB : Below W0.heap.size W0 w) (hg0 : W0.heap.size ≤ g) (ho0 : W0.heap.size ≤ ho) (h : PsAt w g b l) (hE : Sc.Ended l) (R : Row w ho (opc (opK 3 pos) (.slice none 0 0) (.slice none 0 0)).toArray 48) (hgo : g ≠ ho) (hbo : b ≠ ho) :
    Calls Tryz.prog 51 #[.pointer (some ⟨g, 0, none⟩), .pointer (some ⟨ho, 0, none⟩)] w fun e w' => restR w.heap.size g b ho pos (Sc.restOf 3 l) e w' ∧ Only (two g ho) w w' := by
  obtain ⟨res, hres⟩ : ∃ r, r = Sc.restOf 3 l := ⟨_, rfl⟩
  rw [← hres]
  have HL := Lib.hid (And.intro h.lt (And.intro (h.bl hE) R.lt))
  have HM : Hid (∀ w', Only (two g ho) w w' → Glb13 w') := Lib.hid fun w' O => glb_only hM hB O (fun k e => by rcases e with e | e <;> omega)
  have HGO := Lib.hid (And.intro hgo hbo)
  have k0 : w.cell? ⟨ho, 0, none⟩ = some (.int .i64 3) := R.cell 0
  have H0 := Lib.hid (And.intro R (And.intro h (And.intro (Only.refl (two g ho) w) hE)))
  have hres2 : res = match Sc.num 1 999999 l with
    | .error e => .error e
    | .ok (n, l1) => match Sc.must 1 (Sc.link 3) l1 with
      | .error e => .error e
      | .ok (_, l2) => match Sc.num 1 999999 l2 with
        | .error e => .error e
        | .ok (m, l3) => .ok ({ Sc.op0 with kind := 3, fr := n.toNat, too := m.toNat }, l3) := by
    rw [hres]
    unfold Sc.restOf
    rw [if_neg (by omega), show Sc.most 3 = 999999 from rfl, show Sc.least 3 = 1 from rfl]
    rcases Sc.num 1 999999 l with e | ⟨n, l1⟩
    · rfl
    · dsimp only
      rcases Sc.must 1 (Sc.link 3) l1 with e | ⟨t, l2⟩
      · rfl
      · dsimp only
        rcases Sc.num 1 999999 l2 with e | ⟨m, l3⟩ <;> rfl
  have HRES := Lib.hid hres2
  clear hres hres2 h hE hM hB R
  go_enter Tryz.func51, Tryz.ntmps51
  go_wp2_with fail
  refine (unit_kind 3 w).mono ?_
  rintro _ w ⟨rfl, rfl⟩
  go_wp2_with fail
  refine (pnum_any 1 999999 g b l w H0.out.2.1 H0.out.2.2.2).mono ?_
  rintro e w1' ⟨hr, O⟩
  rcases hm : Sc.num 1 999999 l with ⟨p, c⟩ | ⟨n, L1⟩
  · have hres := HRES.out
    rw [hm] at hr hres
    have HRES := Lib.hid hres
    have HO := Lib.hid (H0.out.2.2.1.trans (O.mono fun k e => .inl e))
    have he : e = stopE p c := hr
    rw [he]
    clear hres O he hm
    unfold stopE
    go_wp2_with fail
    refine ⟨rfl, ?_, HO.out⟩
    rw [HRES.out]
    rfl
  · have hres := HRES.out
    rw [hm] at hr hres
    obtain ⟨he, hp⟩ : e = .returned (.int .i64 n) ∧ PsAt w1' g b L1 := hr
    rw [he]
    have hk := Sc.num_ok hm H0.out.2.2.2
    have hE2 := hk.2.2.1
    obtain ⟨m1, rfl⟩ := Int.eq_ofNat_of_zero_le (show 0 ≤ n by omega)
    have hu : IntKind.u32.wrap (m1 : Int) = (m1 : Int) := by rw [IntKind.wrap_u32]; omega
    have HRES := Lib.hid hres
    clear hres hk
    have hn : ¬ ho = g := fun e => HGO.out.1 e.symm
    have RB := O.row H0.out.1 hn
    have k1 : w1'.cell? ⟨ho, 1, none⟩ = some (.int .u32 0) := RB.cell 1
    have z1 := RB.frozen 1
    have SH : Only (· = ho) w1' (w1'.setCell ⟨ho, 1, none⟩ (.int .u32 (m1 : Int))) := set_only _ _ _ _
    have RA : Row (w1'.setCell ⟨ho, 1, none⟩ (.int .u32 (m1 : Int))) ho #[.int .i64 3, .int .u32 (m1 : Int), .int .u32 0, .string ⟨#[]⟩, .slice none 0 0, .slice none 0 0, .int .i32 0, .int .i64 (pos : Int)] 48 := RB.set 1 _
    have hpA := hp.only SH HGO.out.1 HGO.out.2
    have OA := (H0.out.2.2.1.trans (O.mono fun k e => .inl e)).trans (SH.mono (S' := two g ho) fun k e => .inr e)
    have kA : (w1'.setCell ⟨ho, 1, none⟩ (.int .u32 (m1 : Int))).cell? ⟨ho, 0, none⟩ = some (.int .i64 3) := RA.cell 0
    have H1 := Lib.hid (And.intro RA (And.intro hpA (And.intro OA hE2)))
    clear RA hpA OA SH RB hp O hE2 hn hm he
    go_wp2_with fail
    generalize (w1'.setCell ⟨ho, 1, none⟩ (.int .u32 (m1 : Int))) = wA at *
    refine (link_any 3 (by omega) wA (HM.out wA H1.out.2.2.1)).mono ?_
    rintro _ wA ⟨rfl, rfl⟩
    go_wp2_with fail
    refine (must_any 1 (Sc.link 3) g b L1 wA H1.out.2.1 H1.out.2.2.2 (by omega)).mono ?_
    rintro e w2' ⟨hr, O⟩
    rcases hm : Sc.must 1 (Sc.link 3) L1 with ⟨p, c⟩ | ⟨t2, L2⟩
    · have hres := HRES.out
      rw [hm] at hr hres
      have HRES := Lib.hid hres
      have HO := Lib.hid (H1.out.2.2.1.trans (O.mono fun k e => .inl e))
      have he : e = stopE p c := hr
      rw [he]
      clear hres O he hm
      unfold stopE
      go_wp2_with fail
      refine ⟨rfl, ?_, HO.out⟩
      rw [HRES.out]
      rfl
    · have hres := HRES.out
      rw [hm] at hr hres
      obtain ⟨he, hp⟩ : e = .returned (.agg (tk t2).toArray) ∧ PsAt w2' g b L2 := hr
      rw [he]
      have hE2 := (Sc.must_ended hm (by omega) H1.out.2.2.2).1
      have HRES := Lib.hid hres
      clear hres
      have RB := O.row H1.out.1 (show ¬ ho = g from fun e => HGO.out.1 e.symm)
      have kA : w2'.cell? ⟨ho, 0, none⟩ = some (.int .i64 3) := RB.cell 0
      have OA := H1.out.2.2.1.trans (O.mono (S' := two g ho) fun k e => .inl e)
      have H2 := Lib.hid (And.intro RB (And.intro hp (And.intro OA hE2)))
      clear RB hp OA O hE2 hm he
      unfold tk
      go_wp2_with fail
      refine (pnum_any 1 999999 g b L2 w2' H2.out.2.1 H2.out.2.2.2).mono ?_
      rintro e w3' ⟨hr, O⟩
      rcases hm : Sc.num 1 999999 L2 with ⟨p, c⟩ | ⟨n, L3⟩
      · have hres := HRES.out
        rw [hm] at hr hres
        have HRES := Lib.hid hres
        have HO := Lib.hid (H2.out.2.2.1.trans (O.mono fun k e => .inl e))
        have he : e = stopE p c := hr
        rw [he]
        clear hres O he hm
        unfold stopE
        go_wp2_with fail
        refine ⟨rfl, ?_, HO.out⟩
        rw [HRES.out]
        rfl
      · have hres := HRES.out
        rw [hm] at hr hres
        obtain ⟨he, hp⟩ : e = .returned (.int .i64 n) ∧ PsAt w3' g b L3 := hr
        rw [he]
        have hk := Sc.num_ok hm H2.out.2.2.2
        have hE2 := hk.2.2.1
        obtain ⟨m2, rfl⟩ := Int.eq_ofNat_of_zero_le (show 0 ≤ n by omega)
        have hu : IntKind.u32.wrap (m2 : Int) = (m2 : Int) := by rw [IntKind.wrap_u32]; omega
        have HRES := Lib.hid hres
        clear hres hk
        have hn : ¬ ho = g := fun e => HGO.out.1 e.symm
        have RB := O.row H2.out.1 hn
        have k2 : w3'.cell? ⟨ho, 2, none⟩ = some (.int .u32 0) := RB.cell 2
        have z2 := RB.frozen 2
        have SH : Only (· = ho) w3' (w3'.setCell ⟨ho, 2, none⟩ (.int .u32 (m2 : Int))) := set_only _ _ _ _
        have RA : Row (w3'.setCell ⟨ho, 2, none⟩ (.int .u32 (m2 : Int))) ho #[.int .i64 3, .int .u32 (m1 : Int), .int .u32 (m2 : Int), .string ⟨#[]⟩, .slice none 0 0, .slice none 0 0, .int .i32 0, .int .i64 (pos : Int)] 48 := RB.set 2 _
        have hpA := hp.only SH HGO.out.1 HGO.out.2
        have OA := (H2.out.2.2.1.trans (O.mono fun k e => .inl e)).trans (SH.mono (S' := two g ho) fun k e => .inr e)
        have kA : (w3'.setCell ⟨ho, 2, none⟩ (.int .u32 (m2 : Int))).cell? ⟨ho, 0, none⟩ = some (.int .i64 3) := RA.cell 0
        have H3 := Lib.hid (And.intro RA (And.intro hpA (And.intro OA hE2)))
        clear RA hpA OA SH RB hp O hE2 hn hm he
        go_wp2_with fail
        have hF := H3.out
        first | go_end0 | refine bodyPost_ret (results_none rfl _ _ _) rfl ?_
        refine ⟨?_, hF.2.2.1⟩
        rw [HRES.out]
        exact ⟨rfl, hF.2.1, .slice none 0 0, .slice none 0 0, hF.1, pts_no _, ns_no _, fun q hq => by rcases hq with hq | hq <;> cases hq⟩
set_option maxHeartbeats 4000000 in
set_option maxRecDepth 100000 in
theorem rest_5 (g b ho pos : Nat) (l : List Lx.Tk) (W0 w : World) (hM : Glb13 W0) (hB : Below W0.heap.size W0 w) (hg0 : W0.heap.size ≤ g) (ho0 : W0.heap.size ≤ ho) (h : PsAt w g b l) (hE : Sc.Ended l) (R : Row w ho (opc (opK 5 pos) (.slice none 0 0) (.slice none 0 0)).toArray 48) (hgo : g ≠ ho) (hbo : b ≠ ho) :
    Calls Tryz.prog 51 #[.pointer (some ⟨g, 0, none⟩), .pointer (some ⟨ho, 0, none⟩)] w fun e w' => restR w.heap.size g b ho pos (Sc.restOf 5 l) e w' ∧ Only (two g ho) w w' := by
  obtain ⟨res, hres⟩ : ∃ r, r = Sc.restOf 5 l := ⟨_, rfl⟩
  rw [← hres]
  have HL := Lib.hid (And.intro h.lt (And.intro (h.bl hE) R.lt))
  have HM : Hid (∀ w', Only (two g ho) w w' → Glb13 w') := Lib.hid fun w' O => glb_only hM hB O (fun k e => by rcases e with e | e <;> omega)
  have HGO := Lib.hid (And.intro hgo hbo)
  have k0 : w.cell? ⟨ho, 0, none⟩ = some (.int .i64 5) := R.cell 0
  have H0 := Lib.hid (And.intro R (And.intro h (And.intro (Only.refl (two g ho) w) hE)))
  have hres2 : res = match Sc.num 1 999 l with
    | .error e => .error e
    | .ok (n, l1) => match Sc.must 1 (Sc.link 5) l1 with
      | .error e => .error e
      | .ok (_, l2) => match Sc.num 1 999 l2 with
        | .error e => .error e
        | .ok (m, l3) => .ok ({ Sc.op0 with kind := 5, fr := n.toNat, too := m.toNat }, l3) := by
    rw [hres]
    unfold Sc.restOf
    rw [if_neg (by omega), show Sc.most 5 = 999 from rfl, show Sc.least 5 = 1 from rfl]
    rcases Sc.num 1 999 l with e | ⟨n, l1⟩
    · rfl
    · dsimp only
      rcases Sc.must 1 (Sc.link 5) l1 with e | ⟨t, l2⟩
      · rfl
      · dsimp only
        rcases Sc.num 1 999 l2 with e | ⟨m, l3⟩ <;> rfl
  have HRES := Lib.hid hres2
  clear hres hres2 h hE hM hB R
  go_enter Tryz.func51, Tryz.ntmps51
  go_wp2_with fail
  refine (unit_kind 5 w).mono ?_
  rintro _ w ⟨rfl, rfl⟩
  go_wp2_with fail
  refine (pnum_any 1 999 g b l w H0.out.2.1 H0.out.2.2.2).mono ?_
  rintro e w1' ⟨hr, O⟩
  rcases hm : Sc.num 1 999 l with ⟨p, c⟩ | ⟨n, L1⟩
  · have hres := HRES.out
    rw [hm] at hr hres
    have HRES := Lib.hid hres
    have HO := Lib.hid (H0.out.2.2.1.trans (O.mono fun k e => .inl e))
    have he : e = stopE p c := hr
    rw [he]
    clear hres O he hm
    unfold stopE
    go_wp2_with fail
    refine ⟨rfl, ?_, HO.out⟩
    rw [HRES.out]
    rfl
  · have hres := HRES.out
    rw [hm] at hr hres
    obtain ⟨he, hp⟩ : e = .returned (.int .i64 n) ∧ PsAt w1' g b L1 := hr
    rw [he]
    have hk := Sc.num_ok hm H0.out.2.2.2
    have hE2 := hk.2.2.1
    obtain ⟨m1, rfl⟩ := Int.eq_ofNat_of_zero_le (show 0 ≤ n by omega)
    have hu : IntKind.u32.wrap (m1 : Int) = (m1 : Int) := by rw [IntKind.wrap_u32]; omega
    have HRES := Lib.hid hres
    clear hres hk
    have hn : ¬ ho = g := fun e => HGO.out.1 e.symm
    have RB := O.row H0.out.1 hn
    have k1 : w1'.cell? ⟨ho, 1, none⟩ = some (.int .u32 0) := RB.cell 1
    have z1 := RB.frozen 1
    have SH : Only (· = ho) w1' (w1'.setCell ⟨ho, 1, none⟩ (.int .u32 (m1 : Int))) := set_only _ _ _ _
    have RA : Row (w1'.setCell ⟨ho, 1, none⟩ (.int .u32 (m1 : Int))) ho #[.int .i64 5, .int .u32 (m1 : Int), .int .u32 0, .string ⟨#[]⟩, .slice none 0 0, .slice none 0 0, .int .i32 0, .int .i64 (pos : Int)] 48 := RB.set 1 _
    have hpA := hp.only SH HGO.out.1 HGO.out.2
    have OA := (H0.out.2.2.1.trans (O.mono fun k e => .inl e)).trans (SH.mono (S' := two g ho) fun k e => .inr e)
    have kA : (w1'.setCell ⟨ho, 1, none⟩ (.int .u32 (m1 : Int))).cell? ⟨ho, 0, none⟩ = some (.int .i64 5) := RA.cell 0
    have H1 := Lib.hid (And.intro RA (And.intro hpA (And.intro OA hE2)))
    clear RA hpA OA SH RB hp O hE2 hn hm he
    go_wp2_with fail
    generalize (w1'.setCell ⟨ho, 1, none⟩ (.int .u32 (m1 : Int))) = wA at *
    refine (link_any 5 (by omega) wA (HM.out wA H1.out.2.2.1)).mono ?_
    rintro _ wA ⟨rfl, rfl⟩
    go_wp2_with fail
    refine (must_any 1 (Sc.link 5) g b L1 wA H1.out.2.1 H1.out.2.2.2 (by omega)).mono ?_
    rintro e w2' ⟨hr, O⟩
    rcases hm : Sc.must 1 (Sc.link 5) L1 with ⟨p, c⟩ | ⟨t2, L2⟩
    · have hres := HRES.out
      rw [hm] at hr hres
      have HRES := Lib.hid hres
      have HO := Lib.hid (H1.out.2.2.1.trans (O.mono fun k e => .inl e))
      have he : e = stopE p c := hr
      rw [he]
      clear hres O he hm
      unfold stopE
      go_wp2_with fail
      refine ⟨rfl, ?_, HO.out⟩
      rw [HRES.out]
      rfl
    · have hres := HRES.out
      rw [hm] at hr hres
      obtain ⟨he, hp⟩ : e = .returned (.agg (tk t2).toArray) ∧ PsAt w2' g b L2 := hr
      rw [he]
      have hE2 := (Sc.must_ended hm (by omega) H1.out.2.2.2).1
      have HRES := Lib.hid hres
      clear hres
      have RB := O.row H1.out.1 (show ¬ ho = g from fun e => HGO.out.1 e.symm)
      have kA : w2'.cell? ⟨ho, 0, none⟩ = some (.int .i64 5) := RB.cell 0
      have OA := H1.out.2.2.1.trans (O.mono (S' := two g ho) fun k e => .inl e)
      have H2 := Lib.hid (And.intro RB (And.intro hp (And.intro OA hE2)))
      clear RB hp OA O hE2 hm he
      unfold tk
      go_wp2_with fail
      refine (pnum_any 1 999 g b L2 w2' H2.out.2.1 H2.out.2.2.2).mono ?_
      rintro e w3' ⟨hr, O⟩
      rcases hm : Sc.num 1 999 L2 with ⟨p, c⟩ | ⟨n, L3⟩
      · have hres := HRES.out
        rw [hm] at hr hres
        have HRES := Lib.hid hres
        have HO := Lib.hid (H2.out.2.2.1.trans (O.mono fun k e => .inl e))
        have he : e = stopE p c := hr
        rw [he]
        clear hres O he hm
        unfold stopE
        go_wp2_with fail
        refine ⟨rfl, ?_, HO.out⟩
        rw [HRES.out]
        rfl
      · have hres := HRES.out
        rw [hm] at hr hres
        obtain ⟨he, hp⟩ : e = .returned (.int .i64 n) ∧ PsAt w3' g b L3 := hr
        rw [he]
        have hk := Sc.num_ok hm H2.out.2.2.2
        have hE2 := hk.2.2.1
        obtain ⟨m2, rfl⟩ := Int.eq_ofNat_of_zero_le (show 0 ≤ n by omega)
        have hu : IntKind.u32.wrap (m2 : Int) = (m2 : Int) := by rw [IntKind.wrap_u32]; omega
        have HRES := Lib.hid hres
        clear hres hk
        have hn : ¬ ho = g := fun e => HGO.out.1 e.symm
        have RB := O.row H2.out.1 hn
        have k2 : w3'.cell? ⟨ho, 2, none⟩ = some (.int .u32 0) := RB.cell 2
        have z2 := RB.frozen 2
        have SH : Only (· = ho) w3' (w3'.setCell ⟨ho, 2, none⟩ (.int .u32 (m2 : Int))) := set_only _ _ _ _
        have RA : Row (w3'.setCell ⟨ho, 2, none⟩ (.int .u32 (m2 : Int))) ho #[.int .i64 5, .int .u32 (m1 : Int), .int .u32 (m2 : Int), .string ⟨#[]⟩, .slice none 0 0, .slice none 0 0, .int .i32 0, .int .i64 (pos : Int)] 48 := RB.set 2 _
        have hpA := hp.only SH HGO.out.1 HGO.out.2
        have OA := (H2.out.2.2.1.trans (O.mono fun k e => .inl e)).trans (SH.mono (S' := two g ho) fun k e => .inr e)
        have kA : (w3'.setCell ⟨ho, 2, none⟩ (.int .u32 (m2 : Int))).cell? ⟨ho, 0, none⟩ = some (.int .i64 5) := RA.cell 0
        have H3 := Lib.hid (And.intro RA (And.intro hpA (And.intro OA hE2)))
        clear RA hpA OA SH RB hp O hE2 hn hm he
        go_wp2_with fail
        have hF := H3.out
        first | go_end0 | refine bodyPost_ret (results_none rfl _ _ _) rfl ?_
        refine ⟨?_, hF.2.2.1⟩
        rw [HRES.out]
        exact ⟨rfl, hF.2.1, .slice none 0 0, .slice none 0 0, hF.1, pts_no _, ns_no _, fun q hq => by rcases hq with hq | hq <;> cases hq⟩
set_option maxHeartbeats 4000000 in
set_option maxRecDepth 100000 in
theorem rest_6 (g b ho pos : Nat) (l : List Lx.Tk) (W0 w : World) (hM : Glb13 W0) (hB : Below W0.heap.size W0 w) (hg0 : W0.heap.size ≤ g) (ho0 : W0.heap.size ≤ ho) (h : PsAt w g b l) (hE : Sc.Ended l) (R : Row w ho (opc (opK 6 pos) (.slice none 0 0) (.slice none 0 0)).toArray 48) (hgo : g ≠ ho) (hbo : b ≠ ho) :
    Calls Tryz.prog 51 #[.pointer (some ⟨g, 0, none⟩), .pointer (some ⟨ho, 0, none⟩)] w fun e w' => restR w.heap.size g b ho pos (Sc.restOf 6 l) e w' ∧ Only (two g ho) w w' := by
  obtain ⟨res, hres⟩ : ∃ r, r = Sc.restOf 6 l := ⟨_, rfl⟩
  rw [← hres]
  have HL := Lib.hid (And.intro h.lt (And.intro (h.bl hE) R.lt))
  have HM : Hid (∀ w', Only (two g ho) w w' → Glb13 w') := Lib.hid fun w' O => glb_only hM hB O (fun k e => by rcases e with e | e <;> omega)
  have HGO := Lib.hid (And.intro hgo hbo)
  have k0 : w.cell? ⟨ho, 0, none⟩ = some (.int .i64 6) := R.cell 0
  have H0 := Lib.hid (And.intro R (And.intro h (And.intro (Only.refl (two g ho) w) hE)))
  have hres2 : res = match Sc.num 1 999 l with
    | .error e => .error e
    | .ok (n, l1) => match Sc.must 1 (Sc.link 6) l1 with
      | .error e => .error e
      | .ok (_, l2) => match Sc.num 1 999 l2 with
        | .error e => .error e
        | .ok (m, l3) => .ok ({ Sc.op0 with kind := 6, fr := n.toNat, too := m.toNat }, l3) := by
    rw [hres]
    unfold Sc.restOf
    rw [if_neg (by omega), show Sc.most 6 = 999 from rfl, show Sc.least 6 = 1 from rfl]
    rcases Sc.num 1 999 l with e | ⟨n, l1⟩
    · rfl
    · dsimp only
      rcases Sc.must 1 (Sc.link 6) l1 with e | ⟨t, l2⟩
      · rfl
      · dsimp only
        rcases Sc.num 1 999 l2 with e | ⟨m, l3⟩ <;> rfl
  have HRES := Lib.hid hres2
  clear hres hres2 h hE hM hB R
  go_enter Tryz.func51, Tryz.ntmps51
  go_wp2_with fail
  refine (unit_kind 6 w).mono ?_
  rintro _ w ⟨rfl, rfl⟩
  go_wp2_with fail
  refine (pnum_any 1 999 g b l w H0.out.2.1 H0.out.2.2.2).mono ?_
  rintro e w1' ⟨hr, O⟩
  rcases hm : Sc.num 1 999 l with ⟨p, c⟩ | ⟨n, L1⟩
  · have hres := HRES.out
    rw [hm] at hr hres
    have HRES := Lib.hid hres
    have HO := Lib.hid (H0.out.2.2.1.trans (O.mono fun k e => .inl e))
    have he : e = stopE p c := hr
    rw [he]
    clear hres O he hm
    unfold stopE
    go_wp2_with fail
    refine ⟨rfl, ?_, HO.out⟩
    rw [HRES.out]
    rfl
  · have hres := HRES.out
    rw [hm] at hr hres
    obtain ⟨he, hp⟩ : e = .returned (.int .i64 n) ∧ PsAt w1' g b L1 := hr
    rw [he]
    have hk := Sc.num_ok hm H0.out.2.2.2
    have hE2 := hk.2.2.1
    obtain ⟨m1, rfl⟩ := Int.eq_ofNat_of_zero_le (show 0 ≤ n by omega)
    have hu : IntKind.u32.wrap (m1 : Int) = (m1 : Int) := by rw [IntKind.wrap_u32]; omega
    have HRES := Lib.hid hres
    clear hres hk
    have hn : ¬ ho = g := fun e => HGO.out.1 e.symm
    have RB := O.row H0.out.1 hn
    have k1 : w1'.cell? ⟨ho, 1, none⟩ = some (.int .u32 0) := RB.cell 1
    have z1 := RB.frozen 1
    have SH : Only (· = ho) w1' (w1'.setCell ⟨ho, 1, none⟩ (.int .u32 (m1 : Int))) := set_only _ _ _ _
    have RA : Row (w1'.setCell ⟨ho, 1, none⟩ (.int .u32 (m1 : Int))) ho #[.int .i64 6, .int .u32 (m1 : Int), .int .u32 0, .string ⟨#[]⟩, .slice none 0 0, .slice none 0 0, .int .i32 0, .int .i64 (pos : Int)] 48 := RB.set 1 _
    have hpA := hp.only SH HGO.out.1 HGO.out.2
    have OA := (H0.out.2.2.1.trans (O.mono fun k e => .inl e)).trans (SH.mono (S' := two g ho) fun k e => .inr e)
    have kA : (w1'.setCell ⟨ho, 1, none⟩ (.int .u32 (m1 : Int))).cell? ⟨ho, 0, none⟩ = some (.int .i64 6) := RA.cell 0
    have H1 := Lib.hid (And.intro RA (And.intro hpA (And.intro OA hE2)))
    clear RA hpA OA SH RB hp O hE2 hn hm he
    go_wp2_with fail
    generalize (w1'.setCell ⟨ho, 1, none⟩ (.int .u32 (m1 : Int))) = wA at *
    refine (link_any 6 (by omega) wA (HM.out wA H1.out.2.2.1)).mono ?_
    rintro _ wA ⟨rfl, rfl⟩
    go_wp2_with fail
    refine (must_any 1 (Sc.link 6) g b L1 wA H1.out.2.1 H1.out.2.2.2 (by omega)).mono ?_
    rintro e w2' ⟨hr, O⟩
    rcases hm : Sc.must 1 (Sc.link 6) L1 with ⟨p, c⟩ | ⟨t2, L2⟩
    · have hres := HRES.out
      rw [hm] at hr hres
      have HRES := Lib.hid hres
      have HO := Lib.hid (H1.out.2.2.1.trans (O.mono fun k e => .inl e))
      have he : e = stopE p c := hr
      rw [he]
      clear hres O he hm
      unfold stopE
      go_wp2_with fail
      refine ⟨rfl, ?_, HO.out⟩
      rw [HRES.out]
      rfl
    · have hres := HRES.out
      rw [hm] at hr hres
      obtain ⟨he, hp⟩ : e = .returned (.agg (tk t2).toArray) ∧ PsAt w2' g b L2 := hr
      rw [he]
      have hE2 := (Sc.must_ended hm (by omega) H1.out.2.2.2).1
      have HRES := Lib.hid hres
      clear hres
      have RB := O.row H1.out.1 (show ¬ ho = g from fun e => HGO.out.1 e.symm)
      have kA : w2'.cell? ⟨ho, 0, none⟩ = some (.int .i64 6) := RB.cell 0
      have OA := H1.out.2.2.1.trans (O.mono (S' := two g ho) fun k e => .inl e)
      have H2 := Lib.hid (And.intro RB (And.intro hp (And.intro OA hE2)))
      clear RB hp OA O hE2 hm he
      unfold tk
      go_wp2_with fail
      refine (pnum_any 1 999 g b L2 w2' H2.out.2.1 H2.out.2.2.2).mono ?_
      rintro e w3' ⟨hr, O⟩
      rcases hm : Sc.num 1 999 L2 with ⟨p, c⟩ | ⟨n, L3⟩
      · have hres := HRES.out
        rw [hm] at hr hres
        have HRES := Lib.hid hres
        have HO := Lib.hid (H2.out.2.2.1.trans (O.mono fun k e => .inl e))
        have he : e = stopE p c := hr
        rw [he]
        clear hres O he hm
        unfold stopE
        go_wp2_with fail
        refine ⟨rfl, ?_, HO.out⟩
        rw [HRES.out]
        rfl
      · have hres := HRES.out
        rw [hm] at hr hres
        obtain ⟨he, hp⟩ : e = .returned (.int .i64 n) ∧ PsAt w3' g b L3 := hr
        rw [he]
        have hk := Sc.num_ok hm H2.out.2.2.2
        have hE2 := hk.2.2.1
        obtain ⟨m2, rfl⟩ := Int.eq_ofNat_of_zero_le (show 0 ≤ n by omega)
        have hu : IntKind.u32.wrap (m2 : Int) = (m2 : Int) := by rw [IntKind.wrap_u32]; omega
        have HRES := Lib.hid hres
        clear hres hk
        have hn : ¬ ho = g := fun e => HGO.out.1 e.symm
        have RB := O.row H2.out.1 hn
        have k2 : w3'.cell? ⟨ho, 2, none⟩ = some (.int .u32 0) := RB.cell 2
        have z2 := RB.frozen 2
        have SH : Only (· = ho) w3' (w3'.setCell ⟨ho, 2, none⟩ (.int .u32 (m2 : Int))) := set_only _ _ _ _
        have RA : Row (w3'.setCell ⟨ho, 2, none⟩ (.int .u32 (m2 : Int))) ho #[.int .i64 6, .int .u32 (m1 : Int), .int .u32 (m2 : Int), .string ⟨#[]⟩, .slice none 0 0, .slice none 0 0, .int .i32 0, .int .i64 (pos : Int)] 48 := RB.set 2 _
        have hpA := hp.only SH HGO.out.1 HGO.out.2
        have OA := (H2.out.2.2.1.trans (O.mono fun k e => .inl e)).trans (SH.mono (S' := two g ho) fun k e => .inr e)
        have kA : (w3'.setCell ⟨ho, 2, none⟩ (.int .u32 (m2 : Int))).cell? ⟨ho, 0, none⟩ = some (.int .i64 6) := RA.cell 0
        have H3 := Lib.hid (And.intro RA (And.intro hpA (And.intro OA hE2)))
        clear RA hpA OA SH RB hp O hE2 hn hm he
        go_wp2_with fail
        have hF := H3.out
        first | go_end0 | refine bodyPost_ret (results_none rfl _ _ _) rfl ?_
        refine ⟨?_, hF.2.2.1⟩
        rw [HRES.out]
        exact ⟨rfl, hF.2.1, .slice none 0 0, .slice none 0 0, hF.1, pts_no _, ns_no _, fun q hq => by rcases hq with hq | hq <;> cases hq⟩
end Go.Proofs.YtbhjkddjgikaiaaGreatDoor
