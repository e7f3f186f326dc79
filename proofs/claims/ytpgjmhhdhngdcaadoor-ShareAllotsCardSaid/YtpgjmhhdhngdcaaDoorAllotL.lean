/-
  What law 3's own Allot comes to, as the machine runs it.
-/
import Derived.Test.YtpgjmhhdhngdcaaDoorQuoL
namespace Go.Proofs.YtpgjmhhdhngdcaaDoor
open Go.RowKit
set_option linter.unusedVariables false
set_option linter.unusedSimpArgs false

def MakeL (w0 : World) (b off n cap S : Nat) (L : Nat → Bool) (V : Nat → Value) (w : World) : Prop :=
  Below w0.heap.size w0 w ∧ (L 0 = true → V 0 = .slice (some ⟨b, off, none⟩) n cap) ∧ (L 1 = true → V 1 = .int .i64 (n : Int)) ∧ (L 3 = true → V 3 = .slice (some ⟨b, off, none⟩) n cap) ∧ (L 4 = true → V 4 = .int .i64 (n : Int)) ∧
  (L 6 = true → V 6 = .int .u64 (S : Int)) ∧
  (L 2 = true → ∃ g, V 2 = .slice (some ⟨g, 0, none⟩) n n ∧ w0.heap.size ≤ g ∧ Row w g (uvec (List.replicate n 0)) 23) ∧
  (L 5 = true → ∃ g, V 5 = .slice (some ⟨g, 0, none⟩) n n ∧ w0.heap.size ≤ g ∧ Row w g (uvec (List.replicate n 0)) 23) ∧
  (L 2 = true → L 5 = true → V 2 ≠ V 5) ∧ (L 7 = true → V 7 = V 2 ∧ L 2 = true) ∧ (L 8 = true → V 8 = V 5 ∧ L 5 = true) ∧ (L 9 = true → V 9 = .int .u64 (S : Int))
def lvec (l : List Nat) : Array Value := (l.map fun (n : Nat) => Value.int .i64 (n : Int)).toArray
theorem lvec_get (l : List Nat) (i : Nat) (h : i < l.length) : (lvec l)[i]? = some (.int .i64 ((l.getD i 0 : Nat) : Int)) := by
  unfold lvec
  simp [List.getElem?_map, List.getElem?_eq_getElem h, List.getD_eq_getElem?_getD]
theorem lvec_set (l : List Nat) (i x : Nat) : (lvec l).setIfInBounds i (.int .i64 (x : Int)) = lvec (l.set i x) := by
  unfold lvec
  simp [List.map_set]
theorem lvec_made (n : Nat) : madeCells #[Value.int .i64 0] n = lvec (List.replicate n 0) := by
  unfold lvec madeCells
  apply Array.ext'
  simp [Nat.mod_one, List.map_const']
theorem Row.lset {W : World} {g k x : Nat} {l : List Nat} {t : TypeId} (R : Row W g (lvec l) t) : Row (W.setCell ⟨g, k, none⟩ (.int .i64 (x : Int))) g (lvec (l.set k x)) t := lvec_set l k x ▸ R.set k _
theorem Row.lcell {W : World} {g k : Nat} {l : List Nat} {t : TypeId} (R : Row W g (lvec l) t) (h : k < l.length) : W.cell? ⟨g, k, none⟩ = some (.int .i64 ((l.getD k 0 : Nat) : Int)) := (R.cell k).trans (lvec_get l k h)
/-- rests, of which some have been given: the reference's rests -/
theorem mask_set (r g m : List Nat) (hm : ∀ i, m.getD i 0 = if g.getD i 0 = 0 then r.getD i 0 else 0) (x : Nat) (hx : x < m.length) (hg : x < g.length) : ∀ i, (m.set x 0).getD i 0 = if (g.set x 1).getD i 0 = 0 then r.getD i 0 else 0 := by
  intro i
  rw [Sh.getD_set _ _ _ _ hx, Sh.getD_set _ _ _ _ hg]
  by_cases c : i = x
  · rw [if_pos c, if_pos c, if_neg (by omega)]
  · rw [if_neg c, if_neg c]
    exact hm i
theorem rep_getD (n i : Nat) : (List.replicate n 0).getD i 0 = 0 := by
  rw [List.getD_eq_getElem?_getD, List.getElem?_replicate]
  split <;> rfl

set_option maxRecDepth 100000 in
set_option maxHeartbeats 16000000 in
theorem allotL_ok (a : Int) (b off n cap : Nat) (ws : List Nat) (w : World) (hI : Wd.I64 a) (hn : Nums w b off (ni ws)) (hl : ws.length = n) (h1 : 1 ≤ n) (h8 : n ≤ 8) (hw : ∀ i, i < n → 1 ≤ ws.getD i 0 ∧ ws.getD i 0 ≤ 1000000) :
    Calls Tryd.prog 29 #[.int .i64 a, .slice (some ⟨b, off, none⟩) n cap] w fun e w' => ∃ v, e = .returned v ∧ w'.ownsRow w.heap.size 2 1 v n (iv (Sh.allot a ws)) ∧ Below w.heap.size w w' := by
  have HN := Lib.hid hn
  have HW := Lib.hid hw
  clear hn hw
  unfold Wd.I64 at hI
  obtain ⟨S, hS⟩ : ∃ S, a.natAbs = S := ⟨_, rfl⟩
  have hS63 : S ≤ 9223372036854775808 := by omega
  have hT : 0 < ws.sum := by
    have h := HW.out 0 (by omega)
    have := Sh.getD_le_sum ws 0
    omega
  have hts : ws.sum ≤ 8000000 := by
    have hb := sum_bound ws 1000000 (fun i => by
      by_cases c : i < n
      · exact (HW.out i c).2
      · rw [Sh.getD_out _ _ (by omega)]; omega)
    omega
  have FQ : Hid (∀ k, (Sh.quos S ws.sum ws).getD k 0 = S * ws.getD k 0 / ws.sum) := Lib.hid fun i => by
    unfold Sh.quos
    rw [List.getD_eq_getElem?_getD, List.getElem?_map, List.getD_eq_getElem?_getD]
    cases ws[i]? <;> simp
  have FR : Hid (∀ k, (Sh.rests S ws.sum ws).getD k 0 = S * ws.getD k 0 % ws.sum) := Lib.hid fun i => by
    unfold Sh.rests
    rw [List.getD_eq_getElem?_getD, List.getElem?_map, List.getD_eq_getElem?_getD]
    cases ws[i]? <;> simp
  have HQl : (Sh.quos S ws.sum ws).length = n := by simp [Sh.quos, hl]
  have HRl : (Sh.rests S ws.sum ws).length = n := by simp [Sh.rests, hl]
  have hsum := (Sh.left_eq S ws hT).2
  have hRS : Hid ((S - (Sh.quos S ws.sum ws).sum) * ws.sum ≤ (Sh.rests S ws.sum ws).sum) := Lib.hid (Nat.le_of_eq (Sh.left_eq S ws hT).1)
  have HRL : Hid (∀ i, (Sh.rests S ws.sum ws).getD i 0 < ws.sum) := Lib.hid (Sh.rest_lt S ws.sum ws hT)
  have HE : Hid (Sh.hand (S - (Sh.quos S ws.sum ws).sum) (Sh.quos S ws.sum ws) (Sh.rests S ws.sum ws) = Sh.sizes S ws) := Lib.hid rfl
  have hleft : S - (Sh.quos S ws.sum ws).sum ≤ n := by
    have := Sh.left_le S ws hT
    unfold Sh.left at this
    omega
  have hQS : Hid (∀ k, (Sh.quos S ws.sum ws).getD k 0 ≤ S) := Lib.hid fun k => Nat.le_trans (Sh.getD_le_sum _ _) hsum
  have hSl : (Sh.sizes S ws).length = n := by rw [Sh.sizes_len]; exact hl
  have HSZ : Hid (∀ i, (Sh.sizes S ws).getD i 0 ≤ S) := Lib.hid (Sh.sizes_le S ws hT)
  obtain ⟨m, hm⟩ : ∃ m : Bool, m = decide (a < 0) := ⟨_, rfl⟩
  have EA : Hid (iv ((Sh.sizes S ws).map (sgn m)) = iv (Sh.allot a ws)) := Lib.hid (by
    unfold Sh.allot
    rw [hS]
    congr 1
    refine List.map_congr_left fun i _ => ?_
    unfold sgn
    by_cases h : a < 0 <;> simp [h, hm])
  have SG : Hid (∀ z : Nat, z ≤ S → (a < 0 → IntKind.i64.wrap (IntKind.u64.wrap (-(z : Int))) = sgn m z) ∧ (¬ a < 0 → IntKind.i64.wrap (z : Int) = sgn m z)) := Lib.hid fun z hz => by
    refine ⟨fun h => ?_, fun h => ?_⟩
    · unfold sgn; rw [IntKind.wrap_i64, IntKind.wrap_u64, hm]; simp [h]; omega
    · unfold sgn; rw [IntKind.wrap_i64, hm]; simp [h]; omega
  have E0 : ¬ a < 0 → IntKind.u64.wrap a = (S : Int) := fun h => by rw [IntKind.wrap_u64]; omega
  have E1 : a < 0 → IntKind.u64.wrap (-(IntKind.u64.wrap a)) = (S : Int) := fun h => by rw [IntKind.wrap_u64, IntKind.wrap_u64]; omega
  clear hm
  generalize Sh.allot a ws = al at *
  generalize Sh.sizes S ws = sz at *
  generalize Sh.quos S ws.sum ws = Q at *
  generalize Sh.rests S ws.sum ws = Rs at *
  rcases (show a < 0 ∨ ¬ a < 0 by omega) with ha | ha
  all_goals
    first | have es := E1 ha | have es := E0 ha
    clear E0 E1
    have SG2 : Hid (∀ z : Nat, z ≤ S → (IntKind.i64.wrap (IntKind.u64.wrap (-(z : Int))) = sgn m z ∧ a < 0) ∨ (IntKind.i64.wrap (z : Int) = sgn m z ∧ ¬ a < 0)) := Lib.hid fun z hz => by
      first | exact .inl ⟨(SG.out z hz).1 ha, ha⟩ | exact .inr ⟨(SG.out z hz).2 ha, ha⟩
    clear SG hI
    go_enter Tryd.func29, Tryd.ntmps29
    go_wp2_with fail
    go_loopw [5, 29] (fun t i wr => ∃ k : Nat, k ≤ n ∧ i = .int .i64 k ∧ t = .int .i64 (((ws.take k).sum : Nat) : Int) ∧ w = wr) (fun _ i _ => n - (intOf i).toNat)
    case atStart => exact ⟨0, by omega, rfl, rfl, rfl⟩
    obtain ⟨k, hk, rfl, rfl, rfl⟩ := hrel
    have htk := take_sum_le ws k
    by_cases hlt : k < n
    · have hkl : k < (ni ws).length := by simp [ni]; omega
      have hc := HN.out k hkl
      rw [ni_getD] at hc
      have hz := HW.out k hlt
      have HS := Lib.hid (take_sum_succ ws k (by omega))
      generalize ws.getD k 0 = z at *
      go_wp2
      go_roundw
      case rel => exact ⟨k + 1, by omega, by go_num, by rw [HS.out]; go_num, trivial⟩
      case measure => simp [intOf]; omega
    · have hk0 : n = k := by omega
      subst hk0
      rw [List.take_of_length_le (by omega)]
      clear htk hlt hk
      go_wp2_with fail
      refine region_inv (n := 10) (by kernel_rfl) (MakeL w b off n cap S) (by kernel_rfl) ?_ ?_ rfl ?_
      · refine ⟨below_dr (Below.refl _ _), ?_⟩
        refine ⟨?_, ?_, ?_, ?_, ?_, ?_, ?_, ?_, ?_, ?_, ?_⟩ <;> (intro h; simp at h)
      · intro i o ho
        rcases i with _ | _ | _ | _ | _ | _ | _ | _ | _ | _ | i
        all_goals (first | (simp at ho; done) | (obtain rfl := Option.some.inj ho))
        all_goals (rintro L V wx hL hpre ⟨J1, K0, K1, K3, K4, K6, M2, M5, D, A7, A8, K9⟩ a hdef hev hold)
        · have ex : a.tmps[1]?.getD undef = .slice (some ⟨b, off, none⟩) n cap := by
            have h := hold 1 (by simp) (by intro j hj; rcases j with _ | _ | _ | _ | _ | _ | _ | _ | _ | _ | j <;> simp [dstAt])
            simpa [go_sem] using h
          exact st_val ho rfl (v := .slice (some ⟨b, off, none⟩) n cap) (by go_simp) ⟨J1, by simp [updV], by simpa [Upd, updV] using K1, by simpa [Upd, updV] using K3, by simpa [Upd, updV] using K4, by simpa [Upd, updV] using K6, by simpa [Upd, updV] using M2, by simpa [Upd, updV] using M5, by simpa [Upd, updV] using D, by simpa [Upd, updV] using A7, by simpa [Upd, updV] using A8, by simpa [Upd, updV] using K9⟩
        · have p0 := hpre 0 (by decide)
          have e0 : a.tmps[37]?.getD undef = .slice (some ⟨b, off, none⟩) n cap := by simpa [go_sem] using (hev 0 37 p0 rfl (by simp) (by simp)).trans (K0 p0)
          exact st_val ho rfl (v := .int .i64 (n : Int)) (by go_simp) ⟨J1, by simpa [Upd, updV] using K0, by simp [updV], by simpa [Upd, updV] using K3, by simpa [Upd, updV] using K4, by simpa [Upd, updV] using K6, by simpa [Upd, updV] using M2, by simpa [Upd, updV] using M5, by simpa [Upd, updV] using D, by simpa [Upd, updV] using A7, by simpa [Upd, updV] using A8, by simpa [Upd, updV] using K9⟩
        · have p1 := hpre 1 (by decide)
          have e1 : a.tmps[38]?.getD undef = .int .i64 (n : Int) := by simpa [go_sem] using (hev 1 38 p1 rfl (by simp) (by simp)).trans (K1 p1)
          have hrun := run_make_row' (P := Tryd.prog) 73 23 (.int .u64 0) 8 Tryd.underlying73 (by kernel_rfl) rfl .i64 .i64 n (by omega) (by omega) wx
          rw [uvec_made] at hrun
          exact st_val ho rfl (v := .slice (some ⟨wx.heap.size, 0, none⟩) n n) (by go_simp) ⟨below_alloc J1 _, by simpa [Upd, updV] using K0, by simpa [Upd, updV] using K1, by simpa [Upd, updV] using K3, by simpa [Upd, updV] using K4, by simpa [Upd, updV] using K6, fun _ => ⟨wx.heap.size, by simp [updV], J1.size, Row.new wx _ _⟩, fun h => by
            obtain ⟨g, e, h1, R⟩ := M5 (by simpa [Upd] using h)
            exact ⟨g, by simpa [updV] using e, h1, R.alloc _⟩, fun h2 h5 => by
            obtain ⟨g, e, h1, R⟩ := M5 (by simpa [Upd] using h5)
            have := R.lt
            simp [updV, e] <;> omega, fun h => by
            exact absurd (A7 (by simpa [Upd] using h)).2 (by rw [hL]; simp), by simpa [Upd, updV] using A8, by simpa [Upd, updV] using K9⟩
        · have ex : a.tmps[1]?.getD undef = .slice (some ⟨b, off, none⟩) n cap := by
            have h := hold 1 (by simp) (by intro j hj; rcases j with _ | _ | _ | _ | _ | _ | _ | _ | _ | _ | j <;> simp [dstAt])
            simpa [go_sem] using h
          exact st_val ho rfl (v := .slice (some ⟨b, off, none⟩) n cap) (by go_simp) ⟨J1, by simpa [Upd, updV] using K0, by simpa [Upd, updV] using K1, by simp [updV], by simpa [Upd, updV] using K4, by simpa [Upd, updV] using K6, by simpa [Upd, updV] using M2, by simpa [Upd, updV] using M5, by simpa [Upd, updV] using D, by simpa [Upd, updV] using A7, by simpa [Upd, updV] using A8, by simpa [Upd, updV] using K9⟩
        · have p3 := hpre 3 (by decide)
          have e3 : a.tmps[40]?.getD undef = .slice (some ⟨b, off, none⟩) n cap := by simpa [go_sem] using (hev 3 40 p3 rfl (by simp) (by simp)).trans (K3 p3)
          exact st_val ho rfl (v := .int .i64 (n : Int)) (by go_simp) ⟨J1, by simpa [Upd, updV] using K0, by simpa [Upd, updV] using K1, by simpa [Upd, updV] using K3, by simp [updV], by simpa [Upd, updV] using K6, by simpa [Upd, updV] using M2, by simpa [Upd, updV] using M5, by simpa [Upd, updV] using D, by simpa [Upd, updV] using A7, by simpa [Upd, updV] using A8, by simpa [Upd, updV] using K9⟩
        · have p4 := hpre 4 (by decide)
          have e4 : a.tmps[41]?.getD undef = .int .i64 (n : Int) := by simpa [go_sem] using (hev 4 41 p4 rfl (by simp) (by simp)).trans (K4 p4)
          have hrun := run_make_row' (P := Tryd.prog) 73 23 (.int .u64 0) 8 Tryd.underlying73 (by kernel_rfl) rfl .i64 .i64 n (by omega) (by omega) wx
          rw [uvec_made] at hrun
          exact st_val ho rfl (v := .slice (some ⟨wx.heap.size, 0, none⟩) n n) (by go_simp) ⟨below_alloc J1 _, by simpa [Upd, updV] using K0, by simpa [Upd, updV] using K1, by simpa [Upd, updV] using K3, by simpa [Upd, updV] using K4, by simpa [Upd, updV] using K6, fun h => by
            obtain ⟨g, e, h1, R⟩ := M2 (by simpa [Upd] using h)
            exact ⟨g, by simpa [updV] using e, h1, R.alloc _⟩, fun _ => ⟨wx.heap.size, by simp [updV], J1.size, Row.new wx _ _⟩, fun h2 h5 => by
            obtain ⟨g, e, h1, R⟩ := M2 (by simpa [Upd] using h2)
            have := R.lt
            simp [updV, e] <;> omega, by simpa [Upd, updV] using A7, fun h => by
            exact absurd (A8 (by simpa [Upd] using h)).2 (by rw [hL]; simp), by simpa [Upd, updV] using K9⟩
        · have ex : a.tmps[6]?.getD undef = .int .u64 (S : Int) := by
            have h := hold 6 (by simp) (by intro j hj; rcases j with _ | _ | _ | _ | _ | _ | _ | _ | _ | _ | j <;> simp [dstAt])
            simpa [go_sem] using h
          exact st_val ho rfl (v := .int .u64 (S : Int)) (by go_simp) ⟨J1, by simpa [Upd, updV] using K0, by simpa [Upd, updV] using K1, by simpa [Upd, updV] using K3, by simpa [Upd, updV] using K4, by simp [updV], by simpa [Upd, updV] using M2, by simpa [Upd, updV] using M5, by simpa [Upd, updV] using D, by simpa [Upd, updV] using A7, by simpa [Upd, updV] using A8, by simpa [Upd, updV] using K9⟩
        · have p2 := hpre 2 (by decide)
          have e2 : a.tmps[39]?.getD undef = V 2 := by simpa [go_sem] using (hev 2 39 p2 rfl (by simp) (by simp)).trans rfl
          exact st_val ho rfl (v := V 2) (by go_simp) ⟨J1, by simpa [Upd, updV] using K0, by simpa [Upd, updV] using K1, by simpa [Upd, updV] using K3, by simpa [Upd, updV] using K4, by simpa [Upd, updV] using K6, by simpa [Upd, updV] using M2, by simpa [Upd, updV] using M5, by simpa [Upd, updV] using D, by simp [Upd, updV, p2], by simpa [Upd, updV] using A8, by simpa [Upd, updV] using K9⟩
        · have p5 := hpre 5 (by decide)
          have e5 : a.tmps[42]?.getD undef = V 5 := by simpa [go_sem] using (hev 5 42 p5 rfl (by simp) (by simp)).trans rfl
          exact st_val ho rfl (v := V 5) (by go_simp) ⟨J1, by simpa [Upd, updV] using K0, by simpa [Upd, updV] using K1, by simpa [Upd, updV] using K3, by simpa [Upd, updV] using K4, by simpa [Upd, updV] using K6, by simpa [Upd, updV] using M2, by simpa [Upd, updV] using M5, by simpa [Upd, updV] using D, by simpa [Upd, updV] using A7, by simp [Upd, updV, p5], by simpa [Upd, updV] using K9⟩
        · have p6 := hpre 6 (by decide)
          have e6 : a.tmps[43]?.getD undef = .int .u64 (S : Int) := by simpa [go_sem] using (hev 6 43 p6 rfl (by simp) (by simp)).trans (K6 p6)
          exact st_val ho rfl (v := .int .u64 (S : Int)) (by go_simp) ⟨J1, by simpa [Upd, updV] using K0, by simpa [Upd, updV] using K1, by simpa [Upd, updV] using K3, by simpa [Upd, updV] using K4, by simpa [Upd, updV] using K6, by simpa [Upd, updV] using M2, by simpa [Upd, updV] using M5, by simpa [Upd, updV] using D, by simpa [Upd, updV] using A7, by simpa [Upd, updV] using A8, by simp [updV]⟩
      · rintro V wx ⟨J1, K0, K1, K3, K4, K6, M2, M5, D, A7, A8, K9⟩
        obtain ⟨g1, e2, hg1, R1⟩ := M2 rfl
        obtain ⟨g2, e5, hg2, R2⟩ := M5 rfl
        have hne : g1 ≠ g2 := fun h => D rfl rfl (by rw [e2, e5, h])
        have hne2 : g2 ≠ g1 := fun h => hne h.symm
        have v0 := K0 rfl
        have v1 := K1 rfl
        have v3 := K3 rfl
        have v4 := K4 rfl
        have v6 := K6 rfl
        have v9 := K9 rfl
        have v7 := (A7 rfl).1.trans e2
        have v8 := (A8 rfl).1.trans e5
        simp only [fill, if_true, dstAt, v0, v1, v3, v4, v6, v9, e2, e5, v7, v8]
        simp [Act.put]
        clear K0 K1 K3 K4 K6 K9 M2 M5 D A7 A8 v0 v1 v3 v4 v6 v7 v8 v9 e2 e5 V
        have R1' : Row wx g1 (uvec (part 0 Q)) 23 := by rw [part_zero, HQl]; exact R1
        have R2' : Row wx g2 (uvec (part 0 Rs)) 23 := by rw [part_zero, HRl]; exact R2
        clear R1 R2
        go_wp2_with fail
        go_loopw [11, 46] (fun l i wr => ∃ k : Nat, k ≤ n ∧ i = .int .i64 k ∧ l = .int .u64 ((S - (Q.take k).sum : Nat) : Int) ∧ Row wr g1 (uvec (part k Q)) 23 ∧ Row wr g2 (uvec (part k Rs)) 23 ∧ Below w.heap.size w wr) (fun _ i _ => n - (intOf i).toNat)
        case atStart => exact ⟨0, by omega, rfl, by simp, R1', R2', J1⟩
        obtain ⟨k, hk, rfl, rfl, Z1, Z2, BB⟩ := hrel
        clear R1' R2' J1
        by_cases hlt : k < n
        · have hkl : k < (ni ws).length := by simp [ni]; omega
          have hc0 := HN.out k hkl
          rw [ni_getD] at hc0
          have hc : wr.cell? ⟨b, off + k, none⟩ = some (.int .i64 ((ws.getD k 0 : Nat) : Int)) := (BB.cell (block_lt_of_cell hc0)).trans hc0
          have hz := HW.out k hlt
          have hTz : ws.getD k 0 ≤ ws.sum := Sh.getD_le_sum ws k
          have HS := Lib.hid (take_sum_succ Q k (by omega))
          have hQk := take_sum_le Q (k + 1)
          have PQ := Lib.hid (part_set Q k (by omega))
          have PR := Lib.hid (part_set Rs k (by omega))
          have hql := part_len Q k (by omega)
          have hrl := part_len Rs k (by omega)
          have fq := Lib.hid (FQ.out k)
          have fr := Lib.hid (FR.out k)
          generalize ws.getD k 0 = z at *
          have CQ : Hid (∀ W : World, Calls Tryd.prog 47 #[.int .u64 (S : Int), .int .i64 (z : Int), .int .i64 (ws.sum : Int)] W fun e w' => e = .returned (.tuple #[.int .u64 ((Q.getD k 0 : Nat) : Int), .int .u64 ((Rs.getD k 0 : Nat) : Int)]) ∧ Below W.heap.size W w') := Lib.hid fun W => by
            have h := quoL_any S z ws.sum hS63 hz.1 hTz hts W
            rw [fq.out, fr.out]
            exact h
          clear FQ FR fq fr
          generalize hqk : Q.getD k 0 = q at *
          generalize hrk : Rs.getD k 0 = r at *
          clear hqk hrk
          generalize hpq : part k Q = p1 at *
          generalize hpr : part k Rs = p2 at *
          go_wp2_with fail
          refine (CQ.out _).mono ?_
          rintro _ w4 ⟨rfl, hb4⟩
          have Y1 := Z1.below hb4
          have Y2 := Z2.below hb4
          have B4 := below_then BB hb4
          clear CQ hb4 Z1 Z2 BB hc
          have c1 := Y1.ucell (k := k) (by omega)
          have c2 := Y2.ucell (k := k) (by omega)
          have f1 := Y1.frozen k
          have f2 := Y2.frozen k
          go_wp2
          go_roundw
          case rel =>
            refine ⟨k + 1, by omega, by go_num, ?_, ?_, ?_, below_set (below_set B4 hg1 _ _) hg2 _ _⟩
            · have e : IntKind.u64.wrap (((S - (Q.take k).sum : Nat) : Int) - (q : Int)) = ((S - (Q.take (k + 1)).sum : Nat) : Int) := by
                rw [HS.out] at hQk ⊢
                rw [IntKind.wrap_u64]
                omega
              rw [e]
            · rw [← PQ.out]
              exact Y1.uset.other ⟨g2, k, none⟩ hne _
            · rw [← PR.out]
              exact (Y2.other ⟨g1, k, none⟩ hne2 _).uset
          case measure => simp [intOf]; omega
        · have hk0 : n = k := by omega
          subst hk0
          have zQ : part n Q = Q := HQl ▸ part_all Q
          have zR : part n Rs = Rs := HRl ▸ part_all Rs
          rw [zQ] at Z1
          rw [zR] at Z2
          rw [List.take_of_length_le (by omega)]
          clear zQ zR FQ FR hlt hk
          have hmk := run_make_row' (P := Tryd.prog) 79 3 (.int .i64 0) 8 Tryd.underlying79 (by kernel_rfl) rfl .i64 .i64 n (by omega) (by omega)
          simp only [lvec_made] at hmk
          go_wp2_with fail
          clear hmk
          obtain ⟨g3, hg3⟩ : ∃ g3, g3 = wr.heap.size := ⟨_, rfl⟩
          rw [← hg3]
          have hn31 : g1 ≠ g3 := by have := Z1.lt; omega
          have hn32 : g2 ≠ g3 := by have := Z2.lt; omega
          have hn13 : g3 ≠ g1 := fun h => hn31 h.symm
          have hn23 : g3 ≠ g2 := fun h => hn32 h.symm
          have hgg : w.heap.size ≤ g3 := by rw [hg3]; exact BB.size
          have Z3 : Row (wr.alloc (.cells (lvec (List.replicate n 0)) 3)) g3 (lvec (List.replicate n 0)) 3 := Row.new' wr _ _ hg3
          replace Z1 := Z1.alloc (.cells (lvec (List.replicate n 0)) 3)
          replace Z2 := Z2.alloc (.cells (lvec (List.replicate n 0)) 3)
          replace BB := below_alloc BB (.cells (lvec (List.replicate n 0)) 3)
          generalize wr.alloc (.cells (lvec (List.replicate n 0)) 3) = w5 at *
          clear hg3
          go_loopw [11] (fun l wr => ∃ (j : Nat) (o g m : List Nat), l = .int .u64 (j : Int) ∧ j ≤ n ∧ o.length = n ∧ g.length = n ∧ m.length = n ∧ (∀ i, m.getD i 0 = if g.getD i 0 = 0 then Rs.getD i 0 else 0) ∧ j * ws.sum ≤ m.sum ∧ Sh.hand j o m = sz ∧ (∀ i, o.getD i 0 + j ≤ S + 8) ∧ Row wr g1 (uvec o) 23 ∧ Row wr g2 (uvec Rs) 23 ∧ Row wr g3 (lvec g) 3 ∧ Below w.heap.size w wr) (fun l _ => (intOf l).toNat)
          case atStart => exact ⟨_, Q, List.replicate n 0, Rs, rfl, hleft, HQl, by simp, HRl, fun i => by rw [rep_getD, if_pos rfl], hRS.out, HE.out, fun i => by have := hQS.out i; omega, Z1, Z2, Z3, BB⟩
          clear Z1 Z2 Z3 BB HE hQS HQl hRS
          obtain ⟨j, o, g, mm, rfl, hj, hol, hgl, hml, HM, hjm, HE, hob, Z1, Z2, Z3, BB⟩ := hrel
          replace HE := Lib.hid HE
          replace hob := Lib.hid hob
          replace HM := Lib.hid HM
          by_cases h0 : 0 < j
          · obtain ⟨j, rfl⟩ : ∃ i, j = i + 1 := ⟨j - 1, by omega⟩
            have hjm2 : j * ws.sum + ws.sum ≤ mm.sum := by rw [← Nat.succ_mul]; exact hjm
            clear hjm
            generalize hW : wr = w6 at *
            go_wp2_with fail
            go_loopw [15, 80] (fun bs i wr => ∃ k : Nat, k ≤ n ∧ i = .int .i64 k ∧ bs = .int .i64 (lb Rs g k) ∧ w6 = wr) (fun _ i _ => n - (intOf i).toNat)
            case atStart => exact ⟨0, by omega, rfl, rfl, rfl⟩
            obtain ⟨k, hk, rfl, rfl, hw6⟩ := hrel
            subst hw6
            have hlr := lb_range Rs g k
            by_cases hlt : k < n
            · have HB : Hid (lb Rs g (k + 1) = if g.getD k 0 = 0 ∧ (lb Rs g k < 0 ∨ Rs.getD (lb Rs g k).toNat 0 < Rs.getD k 0) then (k : Int) else lb Rs g k) := Lib.hid rfl
              have c1 := Z2.ucell (k := k) (by omega)
              have c3 := Z3.lcell (k := k) (by omega)
              generalize hlb : lb Rs g k = l at *
              clear hlb
              by_cases hg0 : g.getD k 0 = 0
              · rw [hg0] at c3
                rcases (show l = -1 ∨ 0 ≤ l by omega) with hl1 | hl1
                · subst hl1
                  have HB2 := HB.out
                  rw [if_pos ⟨hg0, .inl (by omega)⟩] at HB2
                  clear HB
                  generalize Rs.getD k 0 = x at *
                  go_wp2
                  go_roundw
                  case rel => exact ⟨k + 1, by omega, by go_num, by rw [HB2], trivial⟩
                  case measure => simp [intOf]; omega
                · obtain ⟨bk, rfl⟩ : ∃ bk : Nat, l = (bk : Int) := ⟨l.toNat, by omega⟩
                  have c2 := Z2.ucell (k := bk) (by omega)
                  have HB2 := HB.out
                  clear HB
                  rw [Int.toNat_natCast] at HB2
                  have hq : ((bk : Int) < 0) = False := by simp
                  generalize Rs.getD k 0 = x at *
                  generalize Rs.getD bk 0 = y at *
                  by_cases hxy : y < x
                  · have hxy2 : (y : Int) < (x : Int) := by omega
                    rw [if_pos ⟨hg0, .inr hxy⟩] at HB2
                    go_wp2
                    go_roundw
                    case rel => exact ⟨k + 1, by omega, by go_num, by rw [HB2], trivial⟩
                    case measure => simp [intOf]; omega
                  · have hxy2 : ¬ (y : Int) < (x : Int) := by omega
                    rw [if_neg (by omega)] at HB2
                    go_wp2
                    go_roundw
                    case rel => exact ⟨k + 1, by omega, by go_num, by rw [HB2], trivial⟩
                    case measure => simp [intOf]; omega
              · have hg1' : (((g.getD k 0 : Nat) : Int) == 0) = false := by rw [beq_eq_false_iff_ne]; omega
                have HB2 := HB.out
                rw [if_neg (fun h => hg0 h.1)] at HB2
                clear HB
                generalize g.getD k 0 = gk at *
                generalize Rs.getD k 0 = x at *
                go_wp2
                go_roundw
                case rel => exact ⟨k + 1, by omega, by go_num, by rw [HB2], trivial⟩
                case measure => simp [intOf]; omega
            · have hk0 : n = k := by omega
              subst hk0
              have hlb : lb Rs g n = ((Sh.best mm : Nat) : Int) := by
                have := lb_best Rs g mm HM.out (by omega)
                rwa [hml] at this
              rw [hlb]
              clear hlb hlr
              have hbm : Sh.best mm < n := hml ▸ Sh.best_lt (l := mm) (by omega)
              have HE2 : Hid (Sh.hand j (o.set (Sh.best mm) (o.getD (Sh.best mm) 0 + 1)) (mm.set (Sh.best mm) 0) = sz) := Lib.hid HE.out
              have HM2 := Lib.hid (mask_set Rs g mm HM.out (Sh.best mm) (by omega) (by omega))
              have hs2 : j * ws.sum ≤ (mm.set (Sh.best mm) 0).sum := by
                have h1 := Sh.sum_set mm (Sh.best mm) 0 (by omega)
                have h2 := HM.out (Sh.best mm)
                have h3 := HRL.out (Sh.best mm)
                have h4 : mm.getD (Sh.best mm) 0 ≤ ws.sum := by rw [h2]; split <;> omega
                omega
              have hob2 : Hid (∀ i, (o.set (Sh.best mm) (o.getD (Sh.best mm) 0 + 1)).getD i 0 + j ≤ S + 8) := Lib.hid fun i => by
                rw [Sh.getD_set _ _ _ _ (by omega)]
                have h1 := hob.out i
                have h2 := hob.out (Sh.best mm)
                split <;> omega
              have hx := hob.out (Sh.best mm)
              clear HE hob HM hjm2 HRL
              generalize Sh.best mm = bb at *
              have c1 := Z1.ucell (k := bb) (by omega)
              have c3 := Z3.lcell (k := bb) (by omega)
              have f1 := Z1.frozen bb
              have f3 := Z3.frozen bb
              have hq : ((bb : Int) < 0) = False := by simp
              have hml2 : (mm.set bb 0).length = n := by simp [hml]
              generalize mm.set bb 0 = m2 at *
              generalize o.getD bb 0 = x at *
              generalize g.getD bb 0 = y at *
              have e1 : IntKind.u64.wrap ((x : Int) + 1) = ((x + 1 : Nat) : Int) := by rw [IntKind.wrap_u64]; omega
              go_wp2
              go_roundw
              case rel =>
                refine ⟨j, o.set bb (x + 1), g.set bb 1, m2, by go_num, by omega, by simp [hol], by simp [hgl], hml2, HM2.out, hs2, HE2.out, hob2.out, ?_, ?_, ?_, below_set (below_set BB hgg _ _) hg1 _ _⟩
                · exact Row.uset (x := x + 1) (Z1.other ⟨g3, bb, none⟩ hn31 _)
                · exact (Z2.other ⟨g3, bb, none⟩ hn32 _).other ⟨g1, bb, none⟩ hne2 _
                · exact (Row.lset (x := 1) Z3).other ⟨g1, bb, none⟩ hn13 _
              case measure => simp [intOf]
          · have hj0 : j = 0 := by omega
            subst hj0
            have e1 : o = sz := HE.out
            subst e1
            clear HE HM Z2 Z3 hob hjm h0 hgl hml
            rw [show ((0 : Nat) : Int) = 0 from rfl]
            generalize hW : wr = w6 at *
            go_wp2_with fail
            go_loopw [18, 117] (fun v i wr => ∃ k : Nat, k ≤ n ∧ i = .int .i64 k ∧ wr.ownsRow w6.heap.size 2 1 v k (iv ((o.take k).map (sgn m))) ∧ Below w6.heap.size w6 wr) (fun _ i _ => n - (intOf i).toNat)
            case atStart => exact ⟨0, by omega, rfl, ⟨rfl, .inl ⟨rfl, rfl⟩⟩, Below.refl _ _⟩
            obtain ⟨k, hk, rfl, hown, B6⟩ := hrel
            by_cases hlt : k < n
            · have hkz : k < o.length := by omega
              have hc : wr.cell? ⟨g1, k, none⟩ = some (.int .u64 ((o.getD k 0 : Nat) : Int)) := by
                have h1 := Z1.ucell hkz
                exact (B6.cell (block_lt_of_cell h1)).trans h1
              have hz := SG2.out (o.getD k 0) (HSZ.out k)
              have HM := Lib.hid (map_take_succ (sgn m) o k 0 hkz)
              generalize o.getD k 0 = z at *
              rcases hz with ⟨e1, ha2⟩ | ⟨e1, ha2⟩
              · first
                | (exfalso; omega)
                | (go_wp2_with (at_builtin; refine list_append rfl _ _ rfl (below_alloc B6 _) _ k _ rfl (own_alloc hown _) wr.heap.size 0 1 1 [sgn m z] rfl rfl (nums_one ((Row.new wr _ _).cell 0)) (by omega) ?_; intro v2 w2 hown2 hB2)
                   go_roundw
                   case rel => exact ⟨k + 1, by omega, by go_num, by rw [HM.out]; exact hown2, hB2⟩
                   case measure => simp [intOf]; omega)
              · first
                | (exfalso; omega)
                | (go_wp2_with (at_builtin; refine list_append rfl _ _ rfl (below_alloc B6 _) _ k _ rfl (own_alloc hown _) wr.heap.size 0 1 1 [sgn m z] rfl rfl (nums_one ((Row.new wr _ _).cell 0)) (by omega) ?_; intro v2 w2 hown2 hB2)
                   go_roundw
                   case rel => exact ⟨k + 1, by omega, by go_num, by rw [HM.out]; exact hown2, hB2⟩
                   case measure => simp [intOf]; omega)
            · have hk0 : n = k := by omega
              subst hk0
              rw [List.take_of_length_le (by omega), EA.out] at hown
              go_wp2
              go_ret
              exact ⟨_, rfl, own_mono hown BB.size, below_then BB B6⟩
end Go.Proofs.YtpgjmhhdhngdcaaDoor
