/-
  The machine's side of the law MoneySums: it answers true.
-/
import Derived.Test.YtpgjmhhdhngdcaaDoorAwake2
import Derived.Test.YtpgjmhhdhngdcaaDoorSlice
import Derived.Test.YtpgjmhhdhngdcaaDoorRef01
import Derived.Test.YtpgjmhhdhngdcaaDoorReg
namespace Go.Proofs.YtpgjmhhdhngdcaaDoor
open Go.RowKit
set_option linter.unusedVariables false
set_option linter.unusedSimpArgs false

def SumI (B g : Nat) (w0 : World) (z : Int) (m m1 m2 : Nat) (L : Nat → Bool) (V : Nat → Value) (w : World) : Prop :=
  Below w0.heap.size w0 w ∧ (L 7 = true → L 0 = true) ∧ (L 7 = false → Row w g (bv m) 34) ∧ (L 7 = true → Row w g (bv m2) 34) ∧
  (L 0 = true → V 0 = .agg (bv m)) ∧ (L 1 = true → V 1 = .int .i64 z) ∧ (L 2 = true → V 2 = .int .i64 (z / 9223372036854775808)) ∧ (L 3 = true → V 3 = .int .i64 z) ∧ (L 4 = true → V 4 = .int .u64 (IntKind.u64.wrap z)) ∧
  (L 5 = true → V 5 = .agg (bv m1)) ∧ (L 6 = true → V 6 = .agg (bv m2))
theorem u128_sum (s z : Int) : bv (u128 s + u128 z) = bv (u128 (s + z)) := bv_eq (by unfold u128; omega)

theorem number_no (s : Int) (hs : -1000000000000000000000 ≤ s ∧ s ≤ 1000000000000000000000) (h : ¬ Wd.I64 s) : ¬ Wd.hi s = IntKind.i64.wrap (Wd.lo s) / 9223372036854775808 := by
  unfold Wd.I64 at h
  have e : Wd.hi s = s / 18446744073709551616 := by unfold Wd.hi wrap64; omega
  rw [e, IntKind.wrap_i64]
  unfold Wd.lo
  have q := Int.emod_add_mul_ediv s 18446744073709551616
  have q1 := Int.emod_nonneg s (show (18446744073709551616 : Int) ≠ 0 by omega)
  have q2 := Int.emod_lt_of_pos s (show (0 : Int) < 18446744073709551616 by omega)
  generalize s % 18446744073709551616 = l at *
  generalize s / 18446744073709551616 = t at *
  by_cases hl : l < 9223372036854775808
  · rw [show (l + 9223372036854775808) % 18446744073709551616 = l + 9223372036854775808 by omega]; omega
  · rw [show (l + 9223372036854775808) % 18446744073709551616 = l - 9223372036854775808 by omega]; omega

set_option maxHeartbeats 40000000 in
theorem moneySums_any (a : Option Addr) (len cap : Nat) (zs : List Int) (w : World) (hG : Glb w) (hn : IsNums w a len zs) (hl : len ≤ 60) :
    Calls Tryd.prog 6 #[.slice a len cap] w fun e w' => e = .returned (.bool true) ∧ Below w.heap.size w w' := by
  have HN := Lib.hid hn
  have hlen := hn.1
  have zer : Hid (∀ w : World, Calls Tryd.prog 20 #[.int .i64 0, .int .u64 0] w fun e w' => e = .returned (.agg (bv (u128 (Wd.num 0 0)))) ∧ Below w.heap.size w w') := Lib.hid (refBits_any 0 0 (by unfold Wd.I64; omega) (by unfold Wd.U64; omega))
  clear hn
  go_enter Tryd.func6, Tryd.ntmps6
  go_wp2_with fail
  refine (awake2 _ hG).mono ?_
  rintro _ w1 ⟨rfl, hb1⟩
  go_wp2_with (first | (go_at_call 20; refine (zer.out _).mono ?_; rintro _ w2 ⟨rfl, hb2⟩; replace hb1 := below_then hb1 hb2; clear hb2) | (refine ev_alloc (N := 3) rfl rfl 34 rfl _ zero128 ?_; intro g w3 hg RG B3; replace hg := Nat.le_trans hb1.size hg; replace hb1 := below_then hb1 B3; clear B3) | (refine ev_store rfl 34 _ _ rfl g _ rfl rfl RG (info128 _) (by rw [vec_size]; exact (vec_size _ _).symm) (vec_one _ _) rfl ?_; intro w4 RZ S4))
  replace hb1 := S4.below hb1 hg
  clear S4 RG
  have rz : u128 (Wd.num 0 0) = u128 (zs.take 0).sum := rfl
  rw [rz] at RZ
  go_loopw [19] (fun i wr => ∃ k : Nat, k ≤ len ∧ i = .int .i64 k ∧ Row wr g (bv (u128 (zs.take k).sum)) 34 ∧ Below w.heap.size w wr) (fun i _ => len - (intOf i).toNat)
  case atStart => exact ⟨0, by omega, rfl, RZ, hb1⟩
  case round =>
    obtain ⟨k, hk, rfl, R, BB⟩ := hrel
    clear RZ hb1 zer
    by_cases hlt : k < len
    · obtain ⟨_, hI, hp⟩ := HN.out
      rcases hp with hp | ⟨b, off, rfl, hN⟩
      · omega
      have hltz : k < zs.length := by omega
      have hc0 := hN k hltz
      have hc : wr.cell? ⟨b, off + k, none⟩ = some (.int .i64 (zs.getD k 0)) := (BB.cell (block_lt_of_cell hc0)).trans hc0
      have hIz : Wd.I64 (zs.getD k 0) := hI _ (by rw [List.getD_eq_getElem?_getD, List.getElem?_eq_getElem hltz]; exact List.getElem_mem hltz)
      have HS := Lib.hid (sum_take_succ zs k hltz)
      clear hI hN hc0
      generalize zs.getD k 0 = z at *
      have CB : Hid (∀ w : World, Calls Tryd.prog 20 #[.int .i64 (z / 9223372036854775808), .int .u64 (IntKind.u64.wrap z)] w fun e w' => e = .returned (.agg (bv (u128 z))) ∧ Below w.heap.size w w') := Lib.hid fun w => by
        have e1 := Wd.of_hi z hIz
        have k2 := refBits_any (Wd.hi z) (Wd.lo z) (Wd.hi_bd z) (Wd.lo_bd z) w
        have e3 : u128 (Wd.num (Wd.hi z) (Wd.lo z)) = u128 z := by
          unfold Wd.I64 at hIz; unfold u128 Wd.num Wd.hi Wd.lo wrap64; omega
        rw [e3] at k2
        rwa [e1, Wd.of_lo]
      have CA : Hid (∀ w : World, Calls Tryd.prog 21 #[.agg (bv (u128 (zs.take k).sum)), .agg (bv (u128 z))] w fun e w' => e = .returned (.agg (bv (u128 ((zs.take k).sum + z)))) ∧ Below w.heap.size w w') := Lib.hid fun w => by
        have k2 := refAdd_any (u128 (zs.take k).sum) (u128 z) w
        rwa [u128_sum] at k2
      go_wp2_with fail
      refine region_inv (n := 8) (by kernel_rfl) (SumI w.heap.size g w z (u128 (zs.take k).sum) (u128 z) (u128 ((zs.take k).sum + z))) (by kernel_rfl) ?_ ?_ rfl ?_
      · refine ⟨below_dr BB, fun h => by simp at h, fun _ => R, fun h => by simp at h, ?_⟩
        refine ⟨?_, ?_, ?_, ?_, ?_, ?_, ?_⟩ <;> (intro h; simp at h)
      · intro i o ho
        rcases i with _ | _ | _ | _ | _ | _ | _ | _ | i
        all_goals (first | (simp at ho; done) | (obtain rfl := Option.some.inj ho))
        all_goals (generalize u128 (zs.take k).sum = m at *; generalize u128 z = m1 at *; generalize u128 ((zs.take k).sum + z) = m2 at *)
        all_goals (rintro L V wx hL hpre ⟨J1, J2, J3, J4, K0, K1, K2, K3, K4, K5, K6⟩ a hdef hev hold)
        · have n7 : L 7 = false := by cases h : L 7 with | false => rfl | true => rw [J2 h] at hL; cases hL
          have ex := hold 3 (by simp) (by intro j hj; rcases j with _ | _ | _ | _ | _ | _ | _ | _ | j <;> simp [dstAt])
          exact st_load ho rfl 34 _ rfl g (ex.trans rfl) (J3 n7) _ Tryd.underlying34 rfl (info128 _) ⟨J1, fun _ => by simp [Upd], by simpa [Upd] using J3, by simpa [Upd] using J4, by simp [updV], by simpa [Upd, updV] using K1, by simpa [Upd, updV] using K2, by simpa [Upd, updV] using K3, by simpa [Upd, updV] using K4, by simpa [Upd, updV] using K5, by simpa [Upd, updV] using K6⟩
        · have ex : a.tmps[5]?.getD undef = .int .i64 z := by
            have h := hold 5 (by simp) (by intro j hj; rcases j with _ | _ | _ | _ | _ | _ | _ | _ | j <;> simp [dstAt])
            simpa [go_sem] using h
          exact st_val ho rfl (v := .int .i64 z) (by go_simp) ⟨J1, by simpa [Upd] using J2, by simpa [Upd] using J3, by simpa [Upd] using J4, by simpa [Upd, updV] using K0, by simp [updV], by simpa [Upd, updV] using K2, by simpa [Upd, updV] using K3, by simpa [Upd, updV] using K4, by simpa [Upd, updV] using K5, by simpa [Upd, updV] using K6⟩
        · have p1 := hpre 1 (by decide)
          have e1 : a.tmps[24]?.getD undef = .int .i64 z := by simpa [go_sem] using (hev 1 24 p1 rfl (by simp) (by simp)).trans (K1 p1)
          exact st_val ho rfl (v := .int .i64 (z / 9223372036854775808)) (by go_simp) ⟨J1, by simpa [Upd] using J2, by simpa [Upd] using J3, by simpa [Upd] using J4, by simpa [Upd, updV] using K0, by simpa [Upd, updV] using K1, by simp [updV], by simpa [Upd, updV] using K3, by simpa [Upd, updV] using K4, by simpa [Upd, updV] using K5, by simpa [Upd, updV] using K6⟩
        · have ex : a.tmps[5]?.getD undef = .int .i64 z := by
            have h := hold 5 (by simp) (by intro j hj; rcases j with _ | _ | _ | _ | _ | _ | _ | _ | j <;> simp [dstAt])
            simpa [go_sem] using h
          exact st_val ho rfl (v := .int .i64 z) (by go_simp) ⟨J1, by simpa [Upd] using J2, by simpa [Upd] using J3, by simpa [Upd] using J4, by simpa [Upd, updV] using K0, by simpa [Upd, updV] using K1, by simpa [Upd, updV] using K2, by simp [updV], by simpa [Upd, updV] using K4, by simpa [Upd, updV] using K5, by simpa [Upd, updV] using K6⟩
        · have p3 := hpre 3 (by decide)
          have e3 : a.tmps[26]?.getD undef = .int .i64 z := by simpa [go_sem] using (hev 3 26 p3 rfl (by simp) (by simp)).trans (K3 p3)
          exact st_val ho rfl (v := .int .u64 (IntKind.u64.wrap z)) (by go_simp) ⟨J1, by simpa [Upd] using J2, by simpa [Upd] using J3, by simpa [Upd] using J4, by simpa [Upd, updV] using K0, by simpa [Upd, updV] using K1, by simpa [Upd, updV] using K2, by simpa [Upd, updV] using K3, by simp [updV], by simpa [Upd, updV] using K5, by simpa [Upd, updV] using K6⟩
        · have p2 := hpre 2 (by decide)
          have p4 := hpre 4 (by decide)
          have e2 := (hev 2 25 p2 rfl (by simp) (by simp)).trans (K2 p2)
          have e4 := (hev 4 27 p4 rfl (by simp) (by simp)).trans (K4 p4)
          refine st_call ho rfl rfl Tryd.func20 (by kernel_rfl) rfl #[.int .i64 (z / 9223372036854775808), .int .u64 (IntKind.u64.wrap z)] (by simp [e2, e4]) ((CB.out _).mono ?_)
          rintro _ wy ⟨rfl, hb⟩
          exact ⟨_, rfl, below_then J1 hb, by simpa [Upd] using J2, fun h => (J3 (by simpa [Upd] using h)).below hb, fun h => (J4 (by simpa [Upd] using h)).below hb, by simpa [Upd, updV] using K0, by simpa [Upd, updV] using K1, by simpa [Upd, updV] using K2, by simpa [Upd, updV] using K3, by simpa [Upd, updV] using K4, by simp [updV], by simpa [Upd, updV] using K6⟩
        · have p0 := hpre 0 (by decide)
          have p5 := hpre 5 (by decide)
          have e0 := (hev 0 23 p0 rfl (by simp) (by simp)).trans (K0 p0)
          have e5 := (hev 5 28 p5 rfl (by simp) (by simp)).trans (K5 p5)
          refine st_call ho rfl rfl Tryd.func21 (by kernel_rfl) rfl #[.agg (bv m), .agg (bv m1)] (by simp [e0, e5]) ((CA.out _).mono ?_)
          rintro _ wy ⟨rfl, hb⟩
          exact ⟨_, rfl, below_then J1 hb, by simpa [Upd] using J2, fun h => (J3 (by simpa [Upd] using h)).below hb, fun h => (J4 (by simpa [Upd] using h)).below hb, by simpa [Upd, updV] using K0, by simpa [Upd, updV] using K1, by simpa [Upd, updV] using K2, by simpa [Upd, updV] using K3, by simpa [Upd, updV] using K4, by simpa [Upd, updV] using K5, by simp [updV]⟩
        · have p6 := hpre 6 (by decide)
          have p0 := hpre 0 (by decide)
          have e6 := (hev 6 29 p6 rfl (by simp) (by simp)).trans (K6 p6)
          have ex := hold 3 (by simp) (by intro j hj; rcases j with _ | _ | _ | _ | _ | _ | _ | _ | j <;> simp [dstAt])
          refine st_store ho rfl 34 _ _ rfl g _ (ex.trans rfl) e6 (J3 hL) (info128 _) (by unfold bv; rw [vec_size, vec_size]) (vec_one _ _) ?_
          intro wy RZ S
          exact ⟨S.below J1 hg, fun _ => by simp [Upd, p0], fun h => by simp [Upd] at h, fun _ => RZ, by simpa [Upd, updV] using K0, by simpa [Upd, updV] using K1, by simpa [Upd, updV] using K2, by simpa [Upd, updV] using K3, by simpa [Upd, updV] using K4, by simpa [Upd, updV] using K5, by simpa [Upd, updV] using K6⟩
      · rintro V wx ⟨J1, J2, J3, J4, K0, K1, K2, K3, K4, K5, K6⟩
        have R2 := J4 rfl
        have v0 := K0 rfl
        have v1 := K1 rfl
        have v2 := K2 rfl
        have v3 := K3 rfl
        have v4 := K4 rfl
        have v5 := K5 rfl
        have v6 := K6 rfl
        clear J2 J3 J4 K0 K1 K2 K3 K4 K5 K6 R CA CB hc
        simp only [fill, if_true, dstAt, v0, v1, v2, v3, v4, v5, v6]
        simp [Act.put]
        clear v0 v1 v2 v3 v4 v5 v6 V
        go_wp2
        go_roundw
        case rel => exact ⟨k + 1, by omega, by go_num, by rw [HS.out]; exact R2, J1⟩
        case measure => simp [intOf]; omega
    · have hk0 : k = len := by omega
      have et : zs.take k = zs := List.take_of_length_le (by omega)
      rw [et] at R
      clear et
      subst hk0
      have hsum := sum_bd zs HN.out.2.1
      rw [hlen] at hsum
      have SU := Lib.hid (fun (W : World) (hb : Below w.heap.size w W) => sum_nums a k cap zs W (HN.out.below hb) (by omega))
      generalize zs.sum = s at *
      have NU : Hid (∀ w : World, Calls Tryd.prog 22 #[.agg (bv (u128 s))] w fun e w' => e = .returned (.tuple #[.int .i64 (Wd.hi s), .int .u64 (Wd.lo s)]) ∧ Below w.heap.size w w') := Lib.hid fun w => by
        have k2 := refNumber_any (u128 s) (u128_lt s) w
        rwa [show Wd.hi ((u128 s : Nat) : Int) = Wd.hi s by unfold u128 Wd.hi wrap64; omega, show Wd.lo ((u128 s : Nat) : Int) = Wd.lo s by unfold u128 Wd.lo; omega] at k2
      generalize u128 s = m at *
      have hlo := Wd.lo_bd s
      have hhi := Wd.hi_bd s
      clear HN rz hlen
      by_cases hI : Wd.I64 s
      · have e1 : IntKind.i64.wrap (Wd.lo s) = s := by unfold Wd.I64 at hI; unfold Wd.lo; rw [IntKind.wrap_i64]; omega
        have e2 : s / 9223372036854775808 = Wd.hi s := Wd.of_hi s hI
        go_wp2_with (first | (refine ev_load (N := 32) rfl rfl 34 _ rfl g rfl R _ Tryd.underlying34 rfl (info128 _) ?_))
        refine (NU.out _).mono ?_
        rintro _ w5 ⟨rfl, hb5⟩
        have hB5 := below_then BB hb5
        clear R NU
        go_wp2_with fail
        refine (SU.out _ hB5).mono ?_
        rintro _ w6 ⟨rfl, hb6⟩
        have hB6 := below_then hB5 hb6
        clear SU
        rw [Wd.fit_yes hI]
        go_wp2
        go_ret
        exact ⟨rfl, hB6⟩
      · have e2 : (Wd.hi s == wrap64 (Wd.lo s) / 9223372036854775808) = false := by
          have := number_no s (by omega) hI
          rw [IntKind.wrap_i64] at this
          simpa [wrap64] using this
        go_wp2_with (first | (refine ev_load (N := 32) rfl rfl 34 _ rfl g rfl R _ Tryd.underlying34 rfl (info128 _) ?_))
        refine (NU.out _).mono ?_
        rintro _ w5 ⟨rfl, hb5⟩
        have hB5 := below_then BB hb5
        clear R NU
        go_wp2_with fail
        refine (SU.out _ hB5).mono ?_
        rintro _ w6 ⟨rfl, hb6⟩
        have hB6 := below_then hB5 hb6
        clear SU
        rw [Wd.fit_no hI]
        go_wp2
        go_ret
        exact ⟨rfl, hB6⟩
theorem moneySums_big (a : Option Addr) (len cap : Nat) (w : World) (hG : Glb w) (hl : 60 < len) :
    Calls Tryd.prog 6 #[.slice a len cap] w fun e w' => e = .returned (.bool true) ∧ Below w.heap.size w w' := by
  go_enter Tryd.func6, Tryd.ntmps6
  go_wp2_with fail
  refine (awake2 _ hG).mono ?_
  rintro _ w1 ⟨rfl, hb1⟩
  go_wp2
  go_ret
  exact ⟨rfl, hb1⟩
theorem moneySums_law (a : Option Addr) (len cap : Nat) (zs : List Int) (w : World) (hG : Glb w) (hn : IsNums w a len zs) :
    Calls Tryd.prog 6 #[.slice a len cap] w fun e w' => e = .returned (.bool true) ∧ Below w.heap.size w w' := by
  by_cases hl : len ≤ 60
  · exact moneySums_any a len cap zs w hG hn hl
  · exact moneySums_big a len cap w hG (by omega)
end Go.Proofs.YtpgjmhhdhngdcaaDoor
