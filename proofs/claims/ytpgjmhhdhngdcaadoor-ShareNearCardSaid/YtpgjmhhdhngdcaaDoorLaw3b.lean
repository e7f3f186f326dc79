/-
  The machine's side of the law ShareNear: it answers true.
-/
import Derived.Test.YtpgjmhhdhngdcaaDoorWeights
namespace Go.Proofs.YtpgjmhhdhngdcaaDoor
open Go.RowKit
set_option linter.unusedVariables false
set_option linter.unusedSimpArgs false

theorem zeroW (w : World) : (zeroValue 56).run Tryd.prog w = .ok (.agg #[.int .i64 0, .int .u64 0]) w := by kernel_rfl
theorem cmp_less (a b : Int) (h : a < b) (ha : -1000000000000000000000000000 ≤ a ∧ b ≤ 1000000000000000000000000000) : Wd.cmp a b = -1 := by
  have e1 : Wd.hi a = a / 18446744073709551616 := by unfold Wd.hi wrap64; omega
  have e2 : Wd.hi b = b / 18446744073709551616 := by unfold Wd.hi wrap64; omega
  unfold Wd.cmp
  rw [e1, e2]
  unfold Wd.lo
  rw [if_neg (by omega), if_pos (by omega)]
theorem cmp_more (a b : Int) (h : b < a) (ha : -1000000000000000000000000000 ≤ b ∧ a ≤ 1000000000000000000000000000) : Wd.cmp a b = 1 := by
  have e1 : Wd.hi a = a / 18446744073709551616 := by unfold Wd.hi wrap64; omega
  have e2 : Wd.hi b = b / 18446744073709551616 := by unfold Wd.hi wrap64; omega
  unfold Wd.cmp
  rw [e1, e2]
  unfold Wd.lo
  rw [if_neg (by omega), if_neg (by omega)]
/-- each share differs from the exact one by less than one -/
theorem near (a : Int) (ws : List Nat) (hT : 0 < ws.sum) (i : Nat) :
    -(ws.sum : Int) < (Sh.allot a ws).getD i 0 * (ws.sum : Int) - a * ((ws.getD i 0 : Nat) : Int) ∧ (Sh.allot a ws).getD i 0 * (ws.sum : Int) - a * ((ws.getD i 0 : Nat) : Int) < (ws.sum : Int) := by
  obtain ⟨d, h1, h2, h3⟩ := Sh.sizes_bits a.natAbs ws hT
  rw [allot_getD]
  have h1 := h1 i
  have h2 := h2 i
  have h3 := h3 i
  generalize ws.getD i 0 = x at *
  generalize (Sh.sizes a.natAbs ws).getD i 0 = s at *
  generalize d i = di at *
  generalize ws.sum = T at *
  have hr := Nat.mod_lt (a.natAbs * x) hT
  have hd := Nat.div_add_mod (a.natAbs * x) T
  have key : (s : Int) * (T : Int) - (a.natAbs : Int) * (x : Int) = (di : Int) * (T : Int) - ((a.natAbs * x % T : Nat) : Int) := by
    have e : ((T * (a.natAbs * x / T) + a.natAbs * x % T : Nat) : Int) = ((a.natAbs * x : Nat) : Int) := by rw [hd]
    rw [h3]
    simp only [Int.natCast_add, Int.natCast_mul] at e ⊢
    rw [Int.add_mul, Int.mul_comm ((a.natAbs * x / T : Nat) : Int)]
    generalize (di : Int) * (T : Int) = u at *
    omega
  have bound : -(T : Int) < (s : Int) * (T : Int) - (a.natAbs : Int) * (x : Int) ∧ (s : Int) * (T : Int) - (a.natAbs : Int) * (x : Int) < (T : Int) := by
    rw [key]
    rcases Nat.lt_or_ge 0 di with h | h
    · obtain rfl : di = 1 := by omega
      have := h2 rfl
      omega
    · obtain rfl : di = 0 := by omega
      omega
  by_cases c : a < 0
  · rw [if_pos c]
    rw [show (a.natAbs : Int) = -a by omega, Int.neg_mul] at bound
    rw [Int.neg_mul]
    omega
  · rw [if_neg c]
    rw [show (a.natAbs : Int) = a by omega] at bound
    exact bound
theorem share_small (a : Int) (ws : List Nat) (hI : Wd.I64 a) (hT : 0 < ws.sum) (i : Nat) : Wd.I64 ((Sh.allot a ws).getD i 0) := by
  rw [allot_getD]
  have := Sh.sizes_le a.natAbs ws hT i
  unfold Wd.I64 at *
  split <;> omega
theorem wOf_sum (us : List Nat) (h1 : 1 ≤ us.length) (h8 : us.length ≤ 8) : 0 < (wOf us).sum ∧ (wOf us).sum ≤ 8000000 := by
  have h0 := wOf_bd us 0 (by omega)
  have := Sh.getD_le_sum (wOf us) 0
  have hb := sum_bound (wOf us) 1000000 (fun i => by
    by_cases c : i < us.length
    · exact (wOf_bd us i c).2
    · rw [Sh.getD_out _ _ (by rw [wOf_len]; omega)]; omega)
  rw [wOf_len] at hb
  omega

def NearI (wr : World) (b : Nat) (off : Nat) (n : Nat) (cap : Nat) (k : Nat) (s : Int) (t : Int) (am : Int) (x : Int) (m1 : Int) (m2 : Int) (d : Int) (L : Nat → Bool) (V : Nat → Value) (w' : World) : Prop :=
  Below wr.heap.size wr w' ∧ (L 0 = true → V 0 = .int .i64 s) ∧ (L 1 = true → V 1 = .int .i64 t) ∧ (L 2 = true → V 2 = .agg #[.int .i64 (Wd.hi m1), .int .u64 (Wd.lo m1)]) ∧ (L 3 = true → V 3 = .int .i64 am) ∧ (L 4 = true → V 4 = .slice (some ⟨b, off, none⟩) n cap) ∧ (L 5 = true → V 5 = .int .i64 (k : Int)) ∧ (L 6 = true → V 6 = .pointer (some ⟨b, off + k, none⟩)) ∧ (L 7 = true → V 7 = .int .i64 x) ∧ (L 8 = true → V 8 = .agg #[.int .i64 (Wd.hi m2), .int .u64 (Wd.lo m2)]) ∧ (L 9 = true → V 9 = .agg #[.int .i64 (Wd.hi d), .int .u64 (Wd.lo d)]) ∧ (L 10 = true → ∃ g, V 10 = .pointer (some ⟨g, 0, none⟩) ∧ wr.heap.size ≤ g ∧ Row w' g (if L 11 then #[.int .i64 (Wd.hi d), .int .u64 (Wd.lo d)] else #[.int .i64 0, .int .u64 0]) 56) ∧ (L 11 = true → L 10 = true)
set_option maxRecDepth 100000 in
set_option maxHeartbeats 8000000 in
theorem shareNear_any (am : Int) (p : Option Addr) (n cap0 : Nat) (us : List Nat) (w : World) (hG : Glb w) (hI : Wd.I64 am) (hn : IsU32 w p n us) (h1 : 1 ≤ n) (h8 : n ≤ 8) :
    Calls Tryd.prog 12 #[.int .i64 am, .slice p n cap0] w fun e w' => e = .returned (.bool true) ∧ Below w.heap.size w w' := by
  have hl := hn.1
  have HN := Lib.hid hn
  clear hn
  have hq1 : ((n : Int) == 0) = false := by simp; omega
  have hq2 : decide ((8 : Int) < (n : Int)) = false := by simp; omega
  obtain ⟨hT, hT8⟩ := wOf_sum us (by omega) (by omega)
  have hwl : (wOf us).length = n := by rw [wOf_len, hl]
  have HW := Lib.hid (wOf_bd us)
  have NE := Lib.hid (near am (wOf us) hT)
  have SM := Lib.hid (share_small am (wOf us) hI hT)
  have hal : (Sh.allot am (wOf us)).length = n := by rw [allot_len, hwl]
  have WT := Lib.hid fun (W : World) (hb : Below w.heap.size w W) => weights_any p n cap0 us W (HN.out.below hb) h8
  have AL := Lib.hid fun (q : Option Addr) (k : Nat) (W : World) (hN : IsNums W q n (ni (wOf us))) => allot_nums am q n k (wOf us) W hI hN h1 h8 (fun i hi => HW.out i (by omega))
  generalize wOf us = ws at *
  clear HN
  go_enter Tryd.func12, Tryd.ntmps12
  go_wp2_with fail
  refine (awake3 _ hG).mono ?_
  rintro _ w1 ⟨rfl, hb1⟩
  go_wp2_with fail
  refine (WT.out _ hb1).mono ?_
  rintro _ w2 ⟨q, cap, rfl, hN, hb2⟩
  have hB2 := below_then hb1 hb2
  go_wp2_with fail
  refine (AL.out q cap _ hN).mono ?_
  rintro _ w3 ⟨q2, cap2, rfl, hN2, hb3⟩
  have hB3 := below_then hB2 hb3
  replace hN := hN.below hb3
  clear WT AL hb1 hb2 hb3 hB2
  obtain ⟨_, _, hN⟩ := hN
  rcases hN with h0 | ⟨b, off, rfl, hN⟩
  · omega
  obtain ⟨_, _, hN2⟩ := hN2
  rcases hN2 with h0 | ⟨b2, off2, rfl, hN2⟩
  · omega
  generalize hsh : Sh.allot am ws = sh at *
  clear hsh
  go_wp2_with fail
  go_loopw [8, 43] (fun t i wr => ∃ k : Nat, k ≤ n ∧ i = .int .i64 k ∧ t = .int .i64 (((ws.take k).sum : Nat) : Int) ∧ w3 = wr) (fun _ i _ => n - (intOf i).toNat)
  case atStart => exact ⟨0, by omega, rfl, rfl, rfl⟩
  case round =>
    obtain ⟨k, hk, rfl, rfl, hw⟩ := hrel
    subst hw
    have hts := take_sum_le ws k
    by_cases hlt : k < n
    · have hc := hN k (by simp [ni]; omega)
      rw [ni_getD] at hc
      have hz := HW.out k (by omega)
      have HS := Lib.hid (take_sum_succ ws k (by omega))
      generalize ws.getD k 0 = z at *
      go_wp2
      go_roundw
      case rel => exact ⟨k + 1, by omega, by go_num, by rw [HS.out]; go_num, trivial⟩
      case measure => simp [intOf]; omega
    · have hk0 : n = k := by omega
      subst hk0
      rw [List.take_of_length_le (by omega)]
      clear hts hlt hk
      generalize hTT : ws.sum = T at *
      clear hTT
      go_wp2_with fail
      go_loopw [53] (fun i wr => ∃ k : Nat, k ≤ n ∧ i = .int .i64 k ∧ Below w3.heap.size w3 wr) (fun i _ => n - (intOf i).toNat)
      case atStart => exact ⟨0, by omega, rfl, Below.refl _ _⟩
      case round =>
        obtain ⟨k, hk, rfl, BB⟩ := hrel
        by_cases hlt : k < n
        · have hcw := hN k (by simp [ni]; omega)
          rw [ni_getD] at hcw
          replace hcw : wr.cell? ⟨b, off + k, none⟩ = some (.int .i64 ((ws.getD k 0 : Nat) : Int)) := (BB.cell (block_lt_of_cell hcw)).trans hcw
          have hcs := hN2 k (by omega)
          replace hcs : wr.cell? ⟨b2, off2 + k, none⟩ = some (.int .i64 (sh.getD k 0)) := (BB.cell (block_lt_of_cell hcs)).trans hcs
          have hz := HW.out k (by omega)
          have hne := NE.out k
          have hsI := SM.out k
          have hk1 : (0 : Int) ≤ (k : Int) := by omega
          have hk2 : (k : Int) < (n : Int) := by omega
          generalize sh.getD k 0 = s at *
          generalize hx : ((ws.getD k 0 : Nat) : Int) = x at *
          have hxI : Wd.I64 x := by unfold Wd.I64; omega
          clear hx hz
          obtain ⟨t, ht⟩ : ∃ t : Int, t = (T : Int) := ⟨_, rfl⟩
          rw [← ht] at hne ⊢
          have ht1 : 0 < t := by omega
          have ht2 : t ≤ 8000000 := by omega
          have htI : Wd.I64 t := by unfold Wd.I64; omega
          have htN : Wd.I64 (-t) := by unfold Wd.I64; omega
          have en : IntKind.i64.wrap (-t) = -t := by rw [IntKind.wrap_i64]; omega
          have C1 := Lib.hid fun W => mul_any s t W hsI htI
          have C2 := Lib.hid fun W => mul_any am x W hI hxI
          have C3 := Lib.hid (sub_any (s * t) (am * x))
          have C4 := Lib.hid (of_any t htI)
          have C5 := Lib.hid (of_any (-t) htN)
          have C6 := Lib.hid (cmp_any (s * t - am * x) t)
          have C7 := Lib.hid (cmp_any (s * t - am * x) (-t))
          rw [cmp_less _ _ hne.2 (by omega)] at C6
          rw [cmp_more _ _ hne.1 (by omega)] at C7
          clear hne ht hsI hxI
          generalize s * t - am * x = d at *
          generalize s * t = m1 at *
          generalize am * x = m2 at *
          go_wp2_with fail
          refine region_inv (n := 12) (by kernel_rfl) (NearI wr b off n cap k s t am x m1 m2 d) (by kernel_rfl) ?_ ?_ rfl ?_
          · refine ⟨below_dr (Below.refl _ _), ?_, ?_, ?_, ?_, ?_, ?_, ?_, ?_, ?_, ?_, ?_, ?_⟩ <;> (intro h; simp at h)
          · intro i o ho
            rcases i with _ | _ | _ | _ | _ | _ | _ | _ | _ | _ | _ | _ | i
            all_goals (first | (simp at ho; done) | (obtain rfl := Option.some.inj ho))
            all_goals (rintro L V wx hL hpre ⟨J1, K0, K1, K2, K3, K4, K5, K6, K7, K8, K9, KA, KS⟩ a hdef hev hold)
            · have X12 : a.tmps[12]?.getD undef = .int .i64 s := by
                have h := hold 12 (by simp) (by intro j hj; rcases j with _ | _ | _ | _ | _ | _ | _ | _ | _ | _ | _ | _ | j <;> simp [dstAt])
                simpa [go_sem] using h
              exact st_val ho rfl (v := .int .i64 s) (by go_simp) ⟨J1, by simp [updV], by simpa [Upd, updV] using K1, by simpa [Upd, updV] using K2, by simpa [Upd, updV] using K3, by simpa [Upd, updV] using K4, by simpa [Upd, updV] using K5, by simpa [Upd, updV] using K6, by simpa [Upd, updV] using K7, by simpa [Upd, updV] using K8, by simpa [Upd, updV] using K9, by simpa [Upd, updV] using KA, by simpa [Upd, updV] using KS⟩
            · have X8 : a.tmps[8]?.getD undef = .int .i64 t := by
                have h := hold 8 (by simp) (by intro j hj; rcases j with _ | _ | _ | _ | _ | _ | _ | _ | _ | _ | _ | _ | j <;> simp [dstAt])
                simpa [go_sem] using h
              exact st_val ho rfl (v := .int .i64 t) (by go_simp) ⟨J1, by simpa [Upd, updV] using K0, by simp [updV], by simpa [Upd, updV] using K2, by simpa [Upd, updV] using K3, by simpa [Upd, updV] using K4, by simpa [Upd, updV] using K5, by simpa [Upd, updV] using K6, by simpa [Upd, updV] using K7, by simpa [Upd, updV] using K8, by simpa [Upd, updV] using K9, by simpa [Upd, updV] using KA, by simpa [Upd, updV] using KS⟩
            · have p0 := hpre 0 (by decide)
              have E0 := (hev 0 58 p0 rfl (by simp) (by simp)).trans (K0 p0)
              have e0 : a.tmps[58]?.getD undef = .int .i64 s := by simpa [go_sem] using E0
              have p1 := hpre 1 (by decide)
              have E1 := (hev 1 59 p1 rfl (by simp) (by simp)).trans (K1 p1)
              have e1 : a.tmps[59]?.getD undef = .int .i64 t := by simpa [go_sem] using E1
              refine st_call ho rfl rfl Tryd.func31 (by kernel_rfl) rfl #[.int .i64 s, .int .i64 t] (by simp [E0, E1]) ((C1.out _).mono ?_)
              rintro _ wy ⟨rfl, hb⟩
              exact ⟨_, rfl, below_then J1 hb, by simpa [Upd, updV] using K0, by simpa [Upd, updV] using K1, by simp [updV], by simpa [Upd, updV] using K3, by simpa [Upd, updV] using K4, by simpa [Upd, updV] using K5, by simpa [Upd, updV] using K6, by simpa [Upd, updV] using K7, by simpa [Upd, updV] using K8, by simpa [Upd, updV] using K9, by
              intro h
              obtain ⟨g, e1, e2, R⟩ := KA (by simpa [Upd] using h)
              exact ⟨g, by simpa [updV] using e1, e2, by simpa [Upd] using R.below hb⟩, by simpa [Upd, updV] using KS⟩
            · have X0 : a.tmps[0]?.getD undef = .int .i64 am := by
                have h := hold 0 (by simp) (by intro j hj; rcases j with _ | _ | _ | _ | _ | _ | _ | _ | _ | _ | _ | _ | j <;> simp [dstAt])
                simpa [go_sem] using h
              exact st_val ho rfl (v := .int .i64 am) (by go_simp) ⟨J1, by simpa [Upd, updV] using K0, by simpa [Upd, updV] using K1, by simpa [Upd, updV] using K2, by simp [updV], by simpa [Upd, updV] using K4, by simpa [Upd, updV] using K5, by simpa [Upd, updV] using K6, by simpa [Upd, updV] using K7, by simpa [Upd, updV] using K8, by simpa [Upd, updV] using K9, by simpa [Upd, updV] using KA, by simpa [Upd, updV] using KS⟩
            · have X5 : a.tmps[5]?.getD undef = .slice (some ⟨b, off, none⟩) n cap := by
                have h := hold 5 (by simp) (by intro j hj; rcases j with _ | _ | _ | _ | _ | _ | _ | _ | _ | _ | _ | _ | j <;> simp [dstAt])
                simpa [go_sem] using h
              exact st_val ho rfl (v := .slice (some ⟨b, off, none⟩) n cap) (by go_simp) ⟨J1, by simpa [Upd, updV] using K0, by simpa [Upd, updV] using K1, by simpa [Upd, updV] using K2, by simpa [Upd, updV] using K3, by simp [updV], by simpa [Upd, updV] using K5, by simpa [Upd, updV] using K6, by simpa [Upd, updV] using K7, by simpa [Upd, updV] using K8, by simpa [Upd, updV] using K9, by simpa [Upd, updV] using KA, by simpa [Upd, updV] using KS⟩
            · have X11 : a.tmps[11]?.getD undef = .int .i64 (k : Int) := by
                have h := hold 11 (by simp) (by intro j hj; rcases j with _ | _ | _ | _ | _ | _ | _ | _ | _ | _ | _ | _ | j <;> simp [dstAt])
                simpa [go_sem] using h
              exact st_val ho rfl (v := .int .i64 (k : Int)) (by go_simp) ⟨J1, by simpa [Upd, updV] using K0, by simpa [Upd, updV] using K1, by simpa [Upd, updV] using K2, by simpa [Upd, updV] using K3, by simpa [Upd, updV] using K4, by simp [updV], by simpa [Upd, updV] using K6, by simpa [Upd, updV] using K7, by simpa [Upd, updV] using K8, by simpa [Upd, updV] using K9, by simpa [Upd, updV] using KA, by simpa [Upd, updV] using KS⟩
            · have p4 := hpre 4 (by decide)
              have E4 := (hev 4 62 p4 rfl (by simp) (by simp)).trans (K4 p4)
              have e4 : a.tmps[62]?.getD undef = .slice (some ⟨b, off, none⟩) n cap := by simpa [go_sem] using E4
              have p5 := hpre 5 (by decide)
              have E5 := (hev 5 63 p5 rfl (by simp) (by simp)).trans (K5 p5)
              have e5 : a.tmps[63]?.getD undef = .int .i64 (k : Int) := by simpa [go_sem] using E5
              exact st_val ho rfl (v := .pointer (some ⟨b, off + k, none⟩)) (by go_simp) ⟨J1, by simpa [Upd, updV] using K0, by simpa [Upd, updV] using K1, by simpa [Upd, updV] using K2, by simpa [Upd, updV] using K3, by simpa [Upd, updV] using K4, by simpa [Upd, updV] using K5, by simp [updV], by simpa [Upd, updV] using K7, by simpa [Upd, updV] using K8, by simpa [Upd, updV] using K9, by simpa [Upd, updV] using KA, by simpa [Upd, updV] using KS⟩
            · have p6 := hpre 6 (by decide)
              have E6 := (hev 6 64 p6 rfl (by simp) (by simp)).trans (K6 p6)
              have e6 : a.tmps[64]?.getD undef = .pointer (some ⟨b, off + k, none⟩) := by simpa [go_sem] using E6
              have hcx : wx.cell? ⟨b, off + k, none⟩ = some (.int .i64 x) := (J1.cell (block_lt_of_cell hcw)).trans hcw
              exact st_val ho rfl (v := .int .i64 x) (by go_simp) ⟨J1, by simpa [Upd, updV] using K0, by simpa [Upd, updV] using K1, by simpa [Upd, updV] using K2, by simpa [Upd, updV] using K3, by simpa [Upd, updV] using K4, by simpa [Upd, updV] using K5, by simpa [Upd, updV] using K6, by simp [updV], by simpa [Upd, updV] using K8, by simpa [Upd, updV] using K9, by simpa [Upd, updV] using KA, by simpa [Upd, updV] using KS⟩
            · have p3 := hpre 3 (by decide)
              have E3 := (hev 3 61 p3 rfl (by simp) (by simp)).trans (K3 p3)
              have e3 : a.tmps[61]?.getD undef = .int .i64 am := by simpa [go_sem] using E3
              have p7 := hpre 7 (by decide)
              have E7 := (hev 7 65 p7 rfl (by simp) (by simp)).trans (K7 p7)
              have e7 : a.tmps[65]?.getD undef = .int .i64 x := by simpa [go_sem] using E7
              refine st_call ho rfl rfl Tryd.func31 (by kernel_rfl) rfl #[.int .i64 am, .int .i64 x] (by simp [E3, E7]) ((C2.out _).mono ?_)
              rintro _ wy ⟨rfl, hb⟩
              exact ⟨_, rfl, below_then J1 hb, by simpa [Upd, updV] using K0, by simpa [Upd, updV] using K1, by simpa [Upd, updV] using K2, by simpa [Upd, updV] using K3, by simpa [Upd, updV] using K4, by simpa [Upd, updV] using K5, by simpa [Upd, updV] using K6, by simpa [Upd, updV] using K7, by simp [updV], by simpa [Upd, updV] using K9, by
              intro h
              obtain ⟨g, e1, e2, R⟩ := KA (by simpa [Upd] using h)
              exact ⟨g, by simpa [updV] using e1, e2, by simpa [Upd] using R.below hb⟩, by simpa [Upd, updV] using KS⟩
            · have p2 := hpre 2 (by decide)
              have E2 := (hev 2 60 p2 rfl (by simp) (by simp)).trans (K2 p2)
              have e2 : a.tmps[60]?.getD undef = .agg #[.int .i64 (Wd.hi m1), .int .u64 (Wd.lo m1)] := by simpa [go_sem] using E2
              have p8 := hpre 8 (by decide)
              have E8 := (hev 8 66 p8 rfl (by simp) (by simp)).trans (K8 p8)
              have e8 : a.tmps[66]?.getD undef = .agg #[.int .i64 (Wd.hi m2), .int .u64 (Wd.lo m2)] := by simpa [go_sem] using E8
              refine st_call ho rfl rfl Tryd.func30 (by kernel_rfl) rfl #[.agg #[.int .i64 (Wd.hi m1), .int .u64 (Wd.lo m1)], .agg #[.int .i64 (Wd.hi m2), .int .u64 (Wd.lo m2)]] (by simp [E2, E8]) ((C3.out _).mono ?_)
              rintro _ wy ⟨rfl, hb⟩
              exact ⟨_, rfl, below_then J1 hb, by simpa [Upd, updV] using K0, by simpa [Upd, updV] using K1, by simpa [Upd, updV] using K2, by simpa [Upd, updV] using K3, by simpa [Upd, updV] using K4, by simpa [Upd, updV] using K5, by simpa [Upd, updV] using K6, by simpa [Upd, updV] using K7, by simpa [Upd, updV] using K8, by simp [updV], by
              intro h
              obtain ⟨g, e1, e2, R⟩ := KA (by simpa [Upd] using h)
              exact ⟨g, by simpa [updV] using e1, e2, by simpa [Upd] using R.below hb⟩, by simpa [Upd, updV] using KS⟩
            · refine st_alloc ho rfl 56 rfl _ zeroW ?_
              intro g wy hg R hb
              have ns : ¬ L 11 = true := fun h => by rw [KS h] at hL; cases hL
              exact ⟨below_then J1 hb, by simpa [Upd, updV] using K0, by simpa [Upd, updV] using K1, by simpa [Upd, updV] using K2, by simpa [Upd, updV] using K3, by simpa [Upd, updV] using K4, by simpa [Upd, updV] using K5, by simpa [Upd, updV] using K6, by simpa [Upd, updV] using K7, by simpa [Upd, updV] using K8, by simpa [Upd, updV] using K9, fun _ => ⟨g, by simp [updV], Nat.le_trans J1.size hg, by simpa [Upd, ns] using R⟩, by simp [Upd]⟩
            · have p10 := hpre 10 (by decide)
              have p9 := hpre 9 (by decide)
              have E9 := (hev 9 67 p9 rfl (by simp) (by simp)).trans (K9 p9)
              have e9 : a.tmps[67]?.getD undef = .agg #[.int .i64 (Wd.hi d), .int .u64 (Wd.lo d)] := by simpa [go_sem] using E9
              obtain ⟨g, e1, e2, R⟩ := KA p10
              rw [if_neg (by rw [hL]; simp)] at R
              have ep := (hev 10 13 p10 rfl (by simp) (by simp)).trans e1
              refine st_store ho rfl 56 _ _ rfl g _ ep E9 R (by kernel_rfl) rfl (by simp [Value.oneCell']) ?_
              intro wy RZ S
              exact ⟨S.below J1 e2, by simpa [Upd, updV] using K0, by simpa [Upd, updV] using K1, by simpa [Upd, updV] using K2, by simpa [Upd, updV] using K3, by simpa [Upd, updV] using K4, by simpa [Upd, updV] using K5, by simpa [Upd, updV] using K6, by simpa [Upd, updV] using K7, by simpa [Upd, updV] using K8, by simpa [Upd, updV] using K9, fun _ => ⟨g, by simpa [updV] using e1, e2, by simpa [Upd] using RZ⟩, fun _ => by simp [Upd, p10]⟩
          · rintro V wx ⟨J1, K0, K1, K2, K3, K4, K5, K6, K7, K8, K9, KA, KS⟩
            have v0 := K0 rfl
            have v1 := K1 rfl
            have v2 := K2 rfl
            have v3 := K3 rfl
            have v4 := K4 rfl
            have v5 := K5 rfl
            have v6 := K6 rfl
            have v7 := K7 rfl
            have v8 := K8 rfl
            have v9 := K9 rfl
            obtain ⟨gA, vA, hgA, RA⟩ := KA rfl
            rw [if_pos rfl] at RA
            clear K0 K1 K2 K3 K4 K5 K6 K7 K8 K9 KA KS
            simp only [fill, if_true, dstAt, v0, v1, v2, v3, v4, v5, v6, v7, v8, v9, vA]
            simp [Act.put]
            clear v0 v1 v2 v3 v4 v5 v6 v7 v8 v9 vA V
            have k0 : wx.cell? ⟨gA, 0, none⟩ = some (.int .i64 (Wd.hi d)) := RA.cell 0
            have k1 : wx.cell? ⟨gA, 1, none⟩ = some (.int .u64 (Wd.lo d)) := RA.cell 1
            go_wp2_with fail
            clear C1 C2 C3 hcw hcs hN hN2 NE SM HW RA
            go_region_held3 (fun w' => Below wr.heap.size wr w' ∧ w'.cell? ⟨gA, 0, none⟩ = some (.int .i64 (Wd.hi d)) ∧ w'.cell? ⟨gA, 1, none⟩ = some (.int .u64 (Wd.lo d))) (refine ⟨?_, ?_, ?_⟩ <;> first | assumption | exact below_dr J1 | exact k0 | exact k1 | simp [go_sem, *]) (first | (go_at_call 33; rename_i hHeld _ _; ((with_reducible refine (C4.out _).mono ?_)); rintro e wx ⟨rfl, hb⟩; have HB := below_then hHeld.1 hb; have HC1 := cell_then hHeld.2.1 hb; have HC2 := cell_then hHeld.2.2 hb; clear hb hHeld) | (go_at_call 33; rename_i hHeld _ _; ((with_reducible refine (C5.out _).mono ?_)); rintro e wx ⟨rfl, hb⟩; have HB := below_then hHeld.1 hb; have HC1 := cell_then hHeld.2.1 hb; have HC2 := cell_then hHeld.2.2 hb; clear hb hHeld) | (go_at_call 32; rename_i hHeld _ _; ((with_reducible refine (C6.out _).mono ?_)); rintro e wx ⟨rfl, hb⟩; have HB := below_then hHeld.1 hb; have HC1 := cell_then hHeld.2.1 hb; have HC2 := cell_then hHeld.2.2 hb; clear hb hHeld) | (go_at_call 32; rename_i hHeld _ _; ((with_reducible refine (C7.out _).mono ?_)); rintro e wx ⟨rfl, hb⟩; have HB := below_then hHeld.1 hb; have HC1 := cell_then hHeld.2.1 hb; have HC2 := cell_then hHeld.2.2 hb; clear hb hHeld))
            rename_i hHeld
            have BB2 := below_then BB hHeld.1
            clear hHeld C4 C5 C6 C7
            go_wp2
            go_roundw
            case rel => exact ⟨k + 1, by omega, by go_num, BB2⟩
            case measure => simp [intOf]; omega
        · have hk0 : n = k := by omega
          subst hk0
          go_wp2
          go_ret
          exact ⟨rfl, below_then hB3 BB⟩
theorem shareNear_law (am : Int) (p : Option Addr) (n cap0 : Nat) (us : List Nat) (w : World) (hG : Glb w) (hI : Wd.I64 am) (hn : IsU32 w p n us) :
    Calls Tryd.prog 12 #[.int .i64 am, .slice p n cap0] w fun e w' => e = .returned (.bool true) ∧ Below w.heap.size w w' := by
  by_cases h : 1 ≤ n ∧ n ≤ 8
  · exact shareNear_any am p n cap0 us w hG hI hn h.1 h.2
  · by_cases h0 : n = 0
    · subst h0
      go_enter Tryd.func12, Tryd.ntmps12
      go_wp2_with fail
      refine (awake3 _ hG).mono ?_
      rintro _ w1 ⟨rfl, hb1⟩
      go_wp2
      go_ret
      exact ⟨rfl, hb1⟩
    · have hq1 : ((n : Int) == 0) = false := by simp; omega
      have hq2 : (8 : Int) < (n : Int) := by omega
      go_enter Tryd.func12, Tryd.ntmps12
      go_wp2_with fail
      refine (awake3 _ hG).mono ?_
      rintro _ w1 ⟨rfl, hb1⟩
      go_wp2
      go_ret
      exact ⟨rfl, hb1⟩
end Go.Proofs.YtpgjmhhdhngdcaaDoor
