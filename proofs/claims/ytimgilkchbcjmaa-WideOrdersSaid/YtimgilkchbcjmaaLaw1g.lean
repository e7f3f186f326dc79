/-
  The machine's side of the law WideOrders: it answers true.
-/
import Derived.Test.YtimgilkchbcjmaaLaw1e
import Derived.Test.YtimgilkchbcjmaaReg
import Derived.BigRegion
import Derived.RegionTactic
import Derived.Test.YtimgilkchbcjmaaRef01
namespace Go.Proofs.Ytimgilkchbcjmaa
open Go.RowKit
set_option linter.unusedVariables false
set_option linter.unusedSimpArgs false

/-- the topmost of 128 bits, turned -/
def tgl (m : Nat) : Nat := (m + 2 ^ 127) % 2 ^ 128
theorem bit_tgl (m i : Nat) (hm : m < 2 ^ 128) (hi : i < 128) : (if i = 127 then 1 - bit m 127 else bit m i) = bit (tgl m) i := by
  unfold bit tgl
  rw [mod_bit _ 128 i hi, sum_bit]
  have hp : ∀ k, k < 127 → 2 ^ 127 / 2 ^ k % 2 = 0 := fun k hk => by
    have := moved_low 1 127 k hk
    rwa [Nat.one_mul] at this
  have hc : ∀ k, k ≤ 127 → carry m (2 ^ 127) k = 0 := by
    intro k hk
    unfold carry
    have h1 : 2 ^ 127 % 2 ^ k = 0 := by
      rw [show 2 ^ 127 = 2 ^ k * 2 ^ (127 - k) by rw [← Nat.pow_add, show k + (127 - k) = 127 by omega]]
      exact Nat.mul_mod_right _ _
    rw [h1, Nat.add_zero]
    exact Nat.div_eq_of_lt (Nat.mod_lt _ (Nat.two_pow_pos k))
  rw [hc i (by omega)]
  by_cases e : i = 127
  · subst e
    rw [if_pos rfl]
    have h1 : 2 ^ 127 / 2 ^ 127 % 2 = 1 := by decide
    rw [h1]
    have hb : m / 2 ^ 127 % 2 < 2 := Nat.mod_lt _ (by omega)
    generalize m / 2 ^ 127 % 2 = b at *
    omega
  · rw [if_neg e, hp i (by omega)]
    congr 1
    omega
def cmpN (a b : Nat) : Int := if a = b then 0 else if a < b then -1 else 1
theorem cmpN_bd (a b : Nat) : -1 ≤ cmpN a b ∧ cmpN a b ≤ 1 := by
  unfold cmpN
  repeat' split
  all_goals omega
theorem cmpN_top (a b : Nat) (ha : a < 2 ^ 128) (hb : b < 2 ^ 128) : cmpN (a / 2 ^ 128) (b / 2 ^ 128) = 0 := by
  rw [Nat.div_eq_of_lt ha, Nat.div_eq_of_lt hb]; rfl
theorem cmpN_step (a b k : Nat) (h : cmpN (a / 2 ^ (k + 1)) (b / 2 ^ (k + 1)) = 0) : bit a k - bit b k = cmpN (a / 2 ^ k) (b / 2 ^ k) := by
  have ha := Wd.half_step a k
  have hb := Wd.half_step b k
  have e : a / 2 ^ (k + 1) = b / 2 ^ (k + 1) := by
    by_cases c : a / 2 ^ (k + 1) = b / 2 ^ (k + 1)
    · exact c
    · unfold cmpN at h; rw [if_neg c] at h; split at h <;> omega
  rw [e] at ha
  unfold bit cmpN
  have hp : a / 2 ^ k % 2 < 2 := Nat.mod_lt _ (by omega)
  have hq : b / 2 ^ k % 2 < 2 := Nat.mod_lt _ (by omega)
  generalize b / 2 ^ (k + 1) = x at *
  generalize a / 2 ^ k % 2 = p at *
  generalize b / 2 ^ k % 2 = q at *
  rw [ha, hb]
  repeat' split
  all_goals omega
theorem cmpN_end (a b k : Nat) (h : ¬ cmpN (a / 2 ^ k) (b / 2 ^ k) = 0) : cmpN (a / 2 ^ k) (b / 2 ^ k) = cmpN a b := by
  unfold cmpN at *
  by_cases c : a / 2 ^ k = b / 2 ^ k
  · rw [if_pos c] at h; exact absurd rfl h
  · rw [if_neg c]
    have hne : a ≠ b := fun e => c (by rw [e])
    rw [if_neg hne]
    by_cases d : a / 2 ^ k < b / 2 ^ k
    · have : a < b := by
        rcases Nat.lt_or_ge a b with x | x
        · exact x
        · have := Nat.div_le_div_right (c := 2 ^ k) x; omega
      rw [if_pos d, if_pos this]
    · have : ¬ a < b := by
        intro x
        have := Nat.div_le_div_right (c := 2 ^ k) (Nat.le_of_lt x); omega
      rw [if_neg d, if_neg this]
theorem tgl_num (h l : Int) (hh : Wd.I64 h) (hl : Wd.U64 l) : (tgl (u128 (Wd.num h l)) : Int) = h * 18446744073709551616 + l + 170141183460469231731687303715884105728 := by
  unfold Wd.I64 Wd.U64 at *; unfold tgl u128 Wd.num; omega
theorem cmp_tgl (h l h' l' : Int) (hh : Wd.I64 h) (hl : Wd.U64 l) (hh' : Wd.I64 h') (hl' : Wd.U64 l') :
    Wd.cmp (Wd.num h l) (Wd.num h' l') = cmpN (tgl (u128 (Wd.num h l))) (tgl (u128 (Wd.num h' l'))) := by
  have e1 := tgl_num h l hh hl
  have e2 := tgl_num h' l' hh' hl'
  unfold Wd.cmp cmpN
  rw [Wd.hi_num h l hh hl, Wd.hi_num h' l' hh' hl', Wd.lo_num h l hl, Wd.lo_num h' l' hl']
  unfold Wd.I64 Wd.U64 at *
  generalize tgl (u128 (Wd.num h l)) = x at *
  generalize tgl (u128 (Wd.num h' l')) = y at *
  repeat' split
  all_goals omega
theorem cmpN_neg (a b : Nat) : cmpN b a = -cmpN a b := by
  unfold cmpN
  repeat' split
  all_goals omega

def OrdI (w0 : World) (ga gb : Nat) (ah al bh bl : Int) (ua ub : Nat) (L : Nat → Bool) (V : Nat → Value) (w : World) : Prop :=
  Below w0.heap.size w0 w ∧ w0.heap.size ≤ ga ∧ w0.heap.size ≤ gb ∧ ga < w.heap.size ∧ gb < w.heap.size ∧ Row w ga #[.int .i64 ah, .int .u64 al] 28 ∧ Row w gb #[.int .i64 bh, .int .u64 bl] 28 ∧
  (L 0 = true → V 0 = .agg #[.int .i64 ah, .int .u64 al]) ∧ (L 1 = true → V 1 = .agg (bv ua)) ∧ (L 2 = true → V 2 = .agg #[.int .i64 bh, .int .u64 bl]) ∧ (L 3 = true → V 3 = .agg (bv ub)) ∧
  (L 4 = true → ∃ g, V 4 = .pointer (some ⟨g, 0, none⟩) ∧ ga < g ∧ gb < g ∧ Row w g (if L 6 then bv ua else vec 128 fun _ => 0) 23) ∧
  (L 5 = true → ∃ g, V 5 = .pointer (some ⟨g, 0, none⟩) ∧ ga < g ∧ gb < g ∧ Row w g (if L 7 then bv ub else vec 128 fun _ => 0) 23) ∧
  (L 4 = true → L 5 = true → V 4 ≠ V 5) ∧ (L 6 = true → L 4 = true) ∧ (L 7 = true → L 5 = true)

set_option maxRecDepth 100000 in
set_option maxHeartbeats 4000000 in
theorem wideOrders_no (ah al bh bl : Int) (w : World) (h1 : Wd.I64 ah) (h2 : Wd.U64 al) (h3 : Wd.I64 bh) (h4 : Wd.U64 bl) :
    Calls Try.prog 8 #[.agg #[.int .i64 ah, .int .u64 al], .agg #[.int .i64 bh, .int .u64 bl], .bool false] w fun e w' => e = .returned (.bool true) ∧ Below w.heap.size w w' := by
  have bitsA : Hid (∀ w : World, Calls Try.prog 12 #[.agg #[.int .i64 ah, .int .u64 al]] w fun e w' => e = .returned (.agg (bv (u128 (Wd.num ah al)))) ∧ Below w.heap.size w w') := Lib.hid (lawBits_any ah al h1 h2)
  have bitsB : Hid (∀ w : World, Calls Try.prog 12 #[.agg #[.int .i64 bh, .int .u64 bl]] w fun e w' => e = .returned (.agg (bv (u128 (Wd.num bh bl)))) ∧ Below w.heap.size w w') := Lib.hid (lawBits_any bh bl h3 h4)
  have cmpA : Hid (∀ w : World, Calls Try.prog 25 #[.agg #[.int .i64 ah, .int .u64 al], .agg #[.int .i64 bh, .int .u64 bl]] w fun e w' => e = .returned (.int .i64 (cmpN (tgl (u128 (Wd.num ah al))) (tgl (u128 (Wd.num bh bl))))) ∧ Below w.heap.size w w') := Lib.hid fun w => by
    have k := cmp_any (Wd.num ah al) (Wd.num bh bl) w
    rwa [cmp_tgl ah al bh bl h1 h2 h3 h4, Wd.hi_num _ _ h1 h2, Wd.lo_num _ _ h2, Wd.hi_num _ _ h3 h4, Wd.lo_num _ _ h4] at k
  have cmpB : Hid (∀ w : World, Calls Try.prog 25 #[.agg #[.int .i64 bh, .int .u64 bl], .agg #[.int .i64 ah, .int .u64 al]] w fun e w' => e = .returned (.int .i64 (-cmpN (tgl (u128 (Wd.num ah al))) (tgl (u128 (Wd.num bh bl))))) ∧ Below w.heap.size w w') := Lib.hid fun w => by
    have k := cmp_any (Wd.num bh bl) (Wd.num ah al) w
    rwa [cmp_tgl bh bl ah al h3 h4 h1 h2, cmpN_neg, Wd.hi_num _ _ h1 h2, Wd.lo_num _ _ h2, Wd.hi_num _ _ h3 h4, Wd.lo_num _ _ h4] at k
  have ua_lt := u128_lt (Wd.num ah al)
  have ub_lt := u128_lt (Wd.num bh bl)
  clear h1 h2 h3 h4
  generalize u128 (Wd.num ah al) = ua at *
  generalize u128 (Wd.num bh bl) = ub at *
  go_enter Try.func8, Try.ntmps8
  go_wp2_with (first | (refine ev_box (N := 3) rfl rfl 28 _ rfl _ rfl ?_; intro ga w1 hga RA B1) | (refine ev_box (N := 4) rfl rfl 28 _ rfl _ rfl ?_; intro gb w2 hgb RB B2; have nab := Nat.lt_of_lt_of_le RA.lt hgb; replace hgb := Nat.le_trans B1.size hgb; replace RA := RA.below B2; replace B1 := below_then B1 B2; clear B2) | (go_at_call 11; refine (awake1 _).mono ?_; rintro _ w3 ⟨rfl, B3⟩; replace RA := RA.below B3; replace RB := RB.below B3; replace B1 := below_then B1 B3; clear B3; have c0 : w3.cell? ⟨ga, 0, none⟩ = some (.int .i64 ah) := RA.cell 0; have c2 : w3.cell? ⟨gb, 0, none⟩ = some (.int .i64 bh) := RB.cell 0; have f2 := RB.frozen 0))
  clear c0 c2 f2
  refine region_inv (n := 8) (by kernel_rfl) (OrdI w ga gb ah al bh bl ua ub) (by kernel_rfl) ?_ ?_ rfl ?_
  · refine ⟨below_dr B1, hga, hgb, RA.lt, RB.lt, RA, RB, ?_⟩
    refine ⟨?_, ?_, ?_, ?_, ?_, ?_, ?_, ?_, ?_⟩ <;> (intro h; simp at h)
  · intro i o ho
    rcases i with _ | _ | _ | _ | _ | _ | _ | _ | i
    all_goals (first | (simp at ho; done) | (obtain rfl := Option.some.inj ho))
    all_goals (rintro L V wx hL hpre ⟨J1, J2, J3, J4, J5, J6, J7, K0, K1, K2, K3, K4, K5, K6, K7, K8⟩ a hdef hev hold)
    · have ex := hold 3 (by simp) (by intro j hj; rcases j with _ | _ | _ | _ | _ | _ | _ | _ | j <;> simp [dstAt])
      exact st_load ho rfl 28 _ rfl ga (ex.trans rfl) J6 _ Try.underlying28 rfl (by kernel_rfl) ⟨J1, J2, J3, J4, J5, J6, J7, by simp [updV], by simpa [Upd, updV] using K1, by simpa [Upd, updV] using K2, by simpa [Upd, updV] using K3, by simpa [Upd, updV] using K4, by simpa [Upd, updV] using K5, by simpa [Upd, updV] using K6, by simpa [Upd, updV] using K7, by simpa [Upd, updV] using K8⟩
    · have p0 := hpre 0 (by decide)
      have ev := (hev 0 17 p0 rfl (by simp) (by simp)).trans (K0 p0)
      refine st_call ho rfl rfl Try.func12 (by kernel_rfl) rfl #[.agg #[.int .i64 ah, .int .u64 al]] (by simp [ev]) ((bitsA.out _).mono ?_)
      rintro _ wy ⟨rfl, hb⟩
      exact ⟨_, rfl, below_then J1 hb, J2, J3, Nat.lt_of_lt_of_le J4 hb.size, Nat.lt_of_lt_of_le J5 hb.size, J6.below hb, J7.below hb, by simpa [Upd, updV] using K0, by simp [updV], by simpa [Upd, updV] using K2, by simpa [Upd, updV] using K3, by simp [Upd, updV]; intro h; obtain ⟨g, e1, e2, e3, R⟩ := K4 h; exact ⟨g, e1, e2, e3, R.below hb⟩, by simp [Upd, updV]; intro h; obtain ⟨g, e1, e2, e3, R⟩ := K5 h; exact ⟨g, e1, e2, e3, R.below hb⟩, by simpa [Upd, updV] using K6, by simpa [Upd, updV] using K7, by simpa [Upd, updV] using K8⟩
    · have ex := hold 4 (by simp) (by intro j hj; rcases j with _ | _ | _ | _ | _ | _ | _ | _ | j <;> simp [dstAt])
      exact st_load ho rfl 28 _ rfl gb (ex.trans rfl) J7 _ Try.underlying28 rfl (by kernel_rfl) ⟨J1, J2, J3, J4, J5, J6, J7, by simpa [Upd, updV] using K0, by simpa [Upd, updV] using K1, by simp [updV], by simpa [Upd, updV] using K3, by simpa [Upd, updV] using K4, by simpa [Upd, updV] using K5, by simpa [Upd, updV] using K6, by simpa [Upd, updV] using K7, by simpa [Upd, updV] using K8⟩
    · have p2 := hpre 2 (by decide)
      have ev := (hev 2 19 p2 rfl (by simp) (by simp)).trans (K2 p2)
      refine st_call ho rfl rfl Try.func12 (by kernel_rfl) rfl #[.agg #[.int .i64 bh, .int .u64 bl]] (by simp [ev]) ((bitsB.out _).mono ?_)
      rintro _ wy ⟨rfl, hb⟩
      exact ⟨_, rfl, below_then J1 hb, J2, J3, Nat.lt_of_lt_of_le J4 hb.size, Nat.lt_of_lt_of_le J5 hb.size, J6.below hb, J7.below hb, by simpa [Upd, updV] using K0, by simpa [Upd, updV] using K1, by simpa [Upd, updV] using K2, by simp [updV], by simp [Upd, updV]; intro h; obtain ⟨g, e1, e2, e3, R⟩ := K4 h; exact ⟨g, e1, e2, e3, R.below hb⟩, by simp [Upd, updV]; intro h; obtain ⟨g, e1, e2, e3, R⟩ := K5 h; exact ⟨g, e1, e2, e3, R.below hb⟩, by simpa [Upd, updV] using K6, by simpa [Upd, updV] using K7, by simpa [Upd, updV] using K8⟩
    · refine st_alloc ho rfl 23 rfl _ zero128 ?_
      intro g wy hg R hb
      have n6 : ¬ L 6 = true := fun h => by rw [K7 h] at hL; cases hL
      exact ⟨below_then J1 hb, J2, J3, Nat.lt_of_lt_of_le J4 hb.size, Nat.lt_of_lt_of_le J5 hb.size, J6.below hb, J7.below hb, by simpa [Upd, updV] using K0, by simpa [Upd, updV] using K1, by simpa [Upd, updV] using K2, by simpa [Upd, updV] using K3, fun _ => ⟨g, by simp [updV], Nat.lt_of_lt_of_le J4 hg, Nat.lt_of_lt_of_le J5 hg, by simpa [Upd, n6] using R⟩, by simp [Upd, updV]; intro h; obtain ⟨g, e1, e2, e3, R⟩ := K5 h; exact ⟨g, e1, e2, e3, R.below hb⟩, by simp [Upd, updV]; intro h h2; obtain ⟨g', d1, d2, d3, R'⟩ := K5 h; rw [d1] at h2; injection h2 with h3; injection h3 with h4; injection h4 with h5; have := R'.lt; omega, by simp [Upd], by simpa [Upd, updV] using K8⟩
    · refine st_alloc ho rfl 23 rfl _ zero128 ?_
      intro g wy hg R hb
      have n7 : ¬ L 7 = true := fun h => by rw [K8 h] at hL; cases hL
      exact ⟨below_then J1 hb, J2, J3, Nat.lt_of_lt_of_le J4 hb.size, Nat.lt_of_lt_of_le J5 hb.size, J6.below hb, J7.below hb, by simpa [Upd, updV] using K0, by simpa [Upd, updV] using K1, by simpa [Upd, updV] using K2, by simpa [Upd, updV] using K3, by simp [Upd, updV]; intro h; obtain ⟨g, e1, e2, e3, R⟩ := K4 h; exact ⟨g, e1, e2, e3, R.below hb⟩, fun _ => ⟨g, by simp [updV], Nat.lt_of_lt_of_le J4 hg, Nat.lt_of_lt_of_le J5 hg, by simpa [Upd, n7] using R⟩, by simp [Upd, updV]; intro h h2; obtain ⟨g', d1, d2, d3, R'⟩ := K4 h; rw [d1] at h2; injection h2 with h3; injection h3 with h4; injection h4 with h5; have := R'.lt; omega, by simpa [Upd, updV] using K7, by simp [Upd]⟩
    · have p1 := hpre 1 (by decide)
      have p4 := hpre 4 (by decide)
      have p5 := hpre 5 (by decide)
      obtain ⟨g, e1, e2, e3, R⟩ := K4 p4
      obtain ⟨g', d1, d2, d3, R'⟩ := K5 p5
      have hne : g' ≠ g := fun h => K6 p4 p5 (by rw [e1, d1, h])
      rw [if_neg (by rw [hL]; simp)] at R
      have ep := (hev 4 8 p4 rfl (by simp) (by simp)).trans e1
      have ev := (hev 1 18 p1 rfl (by simp) (by simp)).trans (K1 p1)
      refine st_store ho rfl 23 _ _ rfl g _ ep ev R (info128 _) (by rw [vec_size]; exact (vec_size _ _).symm) (vec_one _ _) ?_
      intro wy RZ S
      exact ⟨S.below J1 (by omega), J2, J3, by rw [S.size]; exact J4, by rw [S.size]; exact J5, J6.stored S (by omega), J7.stored S (by omega), by simpa [Upd, updV] using K0, by simpa [Upd, updV] using K1, by simpa [Upd, updV] using K2, by simpa [Upd, updV] using K3, fun _ => ⟨g, by simp [updV, e1], e2, e3, by simpa [Upd] using RZ⟩, fun _ => ⟨g', by simp [updV, d1], d2, d3, by simpa [Upd] using R'.stored S hne⟩, by simpa [Upd, updV] using K6, fun _ => by simp [Upd, p4], by simpa [Upd, updV] using K8⟩
    · have p3 := hpre 3 (by decide)
      have p4 := hpre 4 (by decide)
      have p5 := hpre 5 (by decide)
      obtain ⟨g, e1, e2, e3, R⟩ := K5 p5
      obtain ⟨g', d1, d2, d3, R'⟩ := K4 p4
      have hne : g' ≠ g := fun h => K6 p4 p5 (by rw [e1, d1, h])
      rw [if_neg (by rw [hL]; simp)] at R
      have ep := (hev 5 9 p5 rfl (by simp) (by simp)).trans e1
      have ev := (hev 3 20 p3 rfl (by simp) (by simp)).trans (K3 p3)
      refine st_store ho rfl 23 _ _ rfl g _ ep ev R (info128 _) (by rw [vec_size]; exact (vec_size _ _).symm) (vec_one _ _) ?_
      intro wy RZ S
      exact ⟨S.below J1 (by omega), J2, J3, by rw [S.size]; exact J4, by rw [S.size]; exact J5, J6.stored S (by omega), J7.stored S (by omega), by simpa [Upd, updV] using K0, by simpa [Upd, updV] using K1, by simpa [Upd, updV] using K2, by simpa [Upd, updV] using K3, fun _ => ⟨g', by simp [updV, d1], d2, d3, by simpa [Upd] using R'.stored S hne⟩, fun _ => ⟨g, by simp [updV, e1], e2, e3, by simpa [Upd] using RZ⟩, by simpa [Upd, updV] using K6, by simpa [Upd, updV] using K7, fun _ => by simp [Upd, p5]⟩
  · rintro V wx ⟨J1, J2, J3, J4, J5, J6, J7, K0, K1, K2, K3, K4, K5, K6, K7, K8⟩
    obtain ⟨gx, e1, e2, e3, RX⟩ := K4 rfl
    obtain ⟨gy, d1, d2, d3, RY⟩ := K5 rfl
    have hne : gx ≠ gy := fun h => K6 rfl rfl (by rw [e1, d1, h])
    rw [if_pos rfl] at RX RY
    have v0 := K0 rfl
    have v1 := K1 rfl
    have v2 := K2 rfl
    have v3 := K3 rfl
    clear K0 K1 K2 K3 K4 K5 K6 K7 K8 RA RB B1
    simp only [fill, if_true, dstAt, v0, v1, v2, v3, e1, d1]
    simp [Act.put]
    clear v0 v1 v2 v3 e1 d1 V
    go_wp2_with fail
    have cx : wx.cell? ⟨gx, 127, none⟩ = some (.int .i64 (bit ua 127)) := (RX.cell 127).trans (vec_get _ _ _ (by omega))
    have cy : wx.cell? ⟨gy, 127, none⟩ = some (.int .i64 (bit ub 127)) := (RY.cell 127).trans (vec_get _ _ _ (by omega))
    have fx := RX.frozen 127
    have fy := RY.frozen 127
    have ba := bit_bd ua 127
    have bb := bit_bd ub 127
    have w1e : IntKind.i64.wrap (1 - bit ua 127) = 1 - bit ua 127 := by rw [IntKind.wrap_i64]; omega
    have w2e : IntKind.i64.wrap (1 - bit ub 127) = 1 - bit ub 127 := by rw [IntKind.wrap_i64]; omega
    go_region
    have TX := (((RX.fill (k := 127) (x := 1 - bit ua 127) (f' := bit (tgl ua)) (fun i hi => bit_tgl ua i ua_lt hi)).other ⟨gy, 127, none⟩ hne (.int .i64 (1 - bit ub 127)))).drew
    have TY := ((((RY.other ⟨gx, 127, none⟩ (fun h => hne h.symm) (.int .i64 (1 - bit ua 127)))).fill (k := 127) (x := 1 - bit ub 127) (f' := bit (tgl ub)) (fun i hi => bit_tgl ub i ub_lt hi))).drew
    have TA := (((J6.other ⟨gx, 127, none⟩ (by simp; omega) (.int .i64 (1 - bit ua 127))).other ⟨gy, 127, none⟩ (by simp; omega) (.int .i64 (1 - bit ub 127)))).drew
    have TB := (((J7.other ⟨gx, 127, none⟩ (by simp; omega) (.int .i64 (1 - bit ua 127))).other ⟨gy, 127, none⟩ (by simp; omega) (.int .i64 (1 - bit ub 127)))).drew
    have TJ := below_dr (below_set (below_set J1 (show w.heap.size ≤ gx by omega) 127 (.int .i64 (1 - bit ua 127))) (show w.heap.size ≤ gy by omega) 127 (.int .i64 (1 - bit ub 127)))
    clear cx cy fx fy ba bb w1e w2e RX RY J6 J7 J1 J4 J5
    generalize ((wx.setCell ⟨gx, 127, none⟩ (.int .i64 (1 - bit ua 127))).setCell ⟨gy, 127, none⟩ (.int .i64 (1 - bit ub 127))).drew = wz at *
    have ta_lt : tgl ua < 2 ^ 128 := Nat.mod_lt _ (Nat.two_pow_pos 128)
    have tb_lt : tgl ub < 2 ^ 128 := Nat.mod_lt _ (Nat.two_pow_pos 128)
    have top := cmpN_top _ _ ta_lt tb_lt
    have TOP := Lib.hid top
    clear top ta_lt tb_lt ua_lt ub_lt bitsA bitsB
    generalize tgl ua = ta at *
    generalize tgl ub = tb at *
    go_wp2
    go_loopw [7, 10] (fun c i wr => ∃ k : Nat, k ≤ 128 ∧ i = .int .i64 ((k : Int) - 1) ∧ c = .int .i64 (cmpN (ta / 2 ^ k) (tb / 2 ^ k)) ∧ Row wr gx (bv ta) 23 ∧ Row wr gy (bv tb) 23 ∧ Row wr ga #[.int .i64 ah, .int .u64 al] 28 ∧ Row wr gb #[.int .i64 bh, .int .u64 bl] 28 ∧ Below w.heap.size w wr) (fun _ i _ => (intOf i + 1).toNat)
    case atStart => exact ⟨128, by omega, rfl, by rw [TOP.out], TX, TY, TA, TB, TJ⟩
    case round =>
      obtain ⟨k, hk, rfl, rfl, QX, QY, QA, QB, BB⟩ := hrel
      clear TX TY TA TB TJ
      by_cases hgo : 0 < k ∧ cmpN (ta / 2 ^ k) (tb / 2 ^ k) = 0
      · obtain ⟨hk0, hz⟩ := hgo
        obtain ⟨m, rfl⟩ : ∃ m, k = m + 1 := ⟨k - 1, by omega⟩
        have hs := cmpN_step ta tb m hz
        have HS := Lib.hid hs
        rw [hz]
        clear hs hz
        have cx : wr.cell? ⟨gx, m, none⟩ = some (.int .i64 (bit ta m)) := (QX.cell m).trans (vec_get _ _ _ (by omega))
        have cy : wr.cell? ⟨gy, m, none⟩ = some (.int .i64 (bit tb m)) := (QY.cell m).trans (vec_get _ _ _ (by omega))
        have ba := bit_bd ta m
        have bb := bit_bd tb m
        have h0 : (0 : Int) ≤ ((m + 1 : Nat) : Int) - 1 := by omega
        have h0' : (0 : Int) ≤ (m : Int) := by omega
        have h1' : (m : Int) < 128 := by omega
        have we : IntKind.i64.wrap (bit ta m - bit tb m) = bit ta m - bit tb m := by rw [IntKind.wrap_i64]; omega
        go_wp2
        go_quiet (fail)
        go_wp2
        go_roundw
        case rel => exact ⟨m, by omega, by go_num, by rw [HS.out], QX.drewN _, QY.drewN _, QA.drewN _, QB.drewN _, below_dN BB _⟩
        case measure => simp [intOf]
      · have hfin : cmpN (ta / 2 ^ k) (tb / 2 ^ k) = cmpN ta tb := by
          by_cases e : k = 0
          · subst e; simp
          · exact cmpN_end ta tb k (fun h => hgo ⟨by omega, h⟩)
        have hbd := cmpN_bd ta tb
        have hcond : (k : Int) - 1 < 0 ∨ ((0 : Int) ≤ (k : Int) - 1 ∧ (cmpN ta tb == 0) = false) := by
          by_cases e : k = 0
          · left; omega
          · right; refine ⟨by omega, ?_⟩
            rw [← hfin]; simp; exact fun h => hgo ⟨by omega, h⟩
        rw [hfin]
        clear hfin hgo
        generalize cmpN ta tb = c at *
        have a0 : wr.cell? ⟨ga, 0, none⟩ = some (.int .i64 ah) := QA.cell 0
        have a1 : wr.cell? ⟨ga, 1, none⟩ = some (.int .u64 al) := QA.cell 1
        have b0 : wr.cell? ⟨gb, 0, none⟩ = some (.int .i64 bh) := QB.cell 0
        have b1 : wr.cell? ⟨gb, 1, none⟩ = some (.int .u64 bl) := QB.cell 1
        rcases hcond with hc | ⟨hc, hc2⟩
        all_goals
          go_wp2_with fail
          refine (cmpA.out _).mono ?_
          rintro _ w8 ⟨rfl, B8⟩
          replace QA := QA.below B8
          replace QB := QB.below B8
          replace BB := below_then BB B8
          have a0 : w8.cell? ⟨ga, 0, none⟩ = some (.int .i64 ah) := QA.cell 0
          have a1 : w8.cell? ⟨ga, 1, none⟩ = some (.int .u64 al) := QA.cell 1
          have b0 : w8.cell? ⟨gb, 0, none⟩ = some (.int .i64 bh) := QB.cell 0
          have b1 : w8.cell? ⟨gb, 1, none⟩ = some (.int .u64 bl) := QB.cell 1
          clear B8
          go_wp2_with fail
          refine (cmpB.out _).mono ?_
          rintro _ w9 ⟨rfl, B9⟩
          replace BB := below_then BB B9
          go_wp2
          go_ret
          exact ⟨rfl, BB⟩

set_option maxRecDepth 100000 in
set_option maxHeartbeats 4000000 in
theorem wideOrders_same (ah al bh bl : Int) (w : World) (h1 : Wd.I64 ah) (h2 : Wd.U64 al) (h3 : Wd.I64 bh) (h4 : Wd.U64 bl) :
    Calls Try.prog 8 #[.agg #[.int .i64 ah, .int .u64 al], .agg #[.int .i64 bh, .int .u64 bl], .bool true] w fun e w' => e = .returned (.bool true) ∧ Below w.heap.size w w' := by
  have bitsA : Hid (∀ w : World, Calls Try.prog 12 #[.agg #[.int .i64 ah, .int .u64 al]] w fun e w' => e = .returned (.agg (bv (u128 (Wd.num ah al)))) ∧ Below w.heap.size w w') := Lib.hid (lawBits_any ah al h1 h2)
  have bitsB : Hid (∀ w : World, Calls Try.prog 12 #[.agg #[.int .i64 ah, .int .u64 bl]] w fun e w' => e = .returned (.agg (bv (u128 (Wd.num ah bl)))) ∧ Below w.heap.size w w') := Lib.hid (lawBits_any ah bl h1 h4)
  have cmpA : Hid (∀ w : World, Calls Try.prog 25 #[.agg #[.int .i64 ah, .int .u64 al], .agg #[.int .i64 ah, .int .u64 bl]] w fun e w' => e = .returned (.int .i64 (cmpN (tgl (u128 (Wd.num ah al))) (tgl (u128 (Wd.num ah bl))))) ∧ Below w.heap.size w w') := Lib.hid fun w => by
    have k := cmp_any (Wd.num ah al) (Wd.num ah bl) w
    rwa [cmp_tgl ah al ah bl h1 h2 h1 h4, Wd.hi_num _ _ h1 h2, Wd.lo_num _ _ h2, Wd.hi_num _ _ h1 h4, Wd.lo_num _ _ h4] at k
  have cmpB : Hid (∀ w : World, Calls Try.prog 25 #[.agg #[.int .i64 ah, .int .u64 bl], .agg #[.int .i64 ah, .int .u64 al]] w fun e w' => e = .returned (.int .i64 (-cmpN (tgl (u128 (Wd.num ah al))) (tgl (u128 (Wd.num ah bl))))) ∧ Below w.heap.size w w') := Lib.hid fun w => by
    have k := cmp_any (Wd.num ah bl) (Wd.num ah al) w
    rwa [cmp_tgl ah bl ah al h1 h4 h1 h2, cmpN_neg, Wd.hi_num _ _ h1 h2, Wd.lo_num _ _ h2, Wd.hi_num _ _ h1 h4, Wd.lo_num _ _ h4] at k
  have ua_lt := u128_lt (Wd.num ah al)
  have ub_lt := u128_lt (Wd.num ah bl)
  clear h1 h2 h3 h4
  generalize u128 (Wd.num ah al) = ua at *
  generalize u128 (Wd.num ah bl) = ub at *
  go_enter Try.func8, Try.ntmps8
  go_wp2_with (first | (refine ev_box (N := 3) rfl rfl 28 _ rfl _ rfl ?_; intro ga w1 hga RA B1) | (refine ev_box (N := 4) rfl rfl 28 _ rfl _ rfl ?_; intro gb w2 hgb RB B2; have nab := Nat.lt_of_lt_of_le RA.lt hgb; replace hgb := Nat.le_trans B1.size hgb; replace RA := RA.below B2; replace B1 := below_then B1 B2; clear B2) | (go_at_call 11; refine (awake1 _).mono ?_; rintro _ w3 ⟨rfl, B3⟩; replace RA := RA.below B3; replace RB := RB.below B3; replace B1 := below_then B1 B3; clear B3; have c0 : w3.cell? ⟨ga, 0, none⟩ = some (.int .i64 ah) := RA.cell 0; have c2 : w3.cell? ⟨gb, 0, none⟩ = some (.int .i64 bh) := RB.cell 0; have f2 := RB.frozen 0))
  have RB' : Row _ _ #[.int .i64 ah, .int .u64 bl] _ := RB.set 0 (.int .i64 ah)
  have RA' := RA.other ⟨gb, 0, none⟩ (by simp; omega) (.int .i64 ah)
  have B1' := below_set B1 hgb 0 (.int .i64 ah)
  clear RA RB B1 c0 c2 f2
  have RA := RA'
  have RB := RB'
  have B1 := B1'
  clear RA' RB' B1'
  generalize w3.setCell ⟨gb, 0, none⟩ (.int .i64 ah) = w4 at *
  refine region_inv (n := 8) (by kernel_rfl) (OrdI w ga gb ah al ah bl ua ub) (by kernel_rfl) ?_ ?_ rfl ?_
  · refine ⟨below_dr B1, hga, hgb, RA.lt, RB.lt, RA, RB, ?_⟩
    refine ⟨?_, ?_, ?_, ?_, ?_, ?_, ?_, ?_, ?_⟩ <;> (intro h; simp at h)
  · intro i o ho
    rcases i with _ | _ | _ | _ | _ | _ | _ | _ | i
    all_goals (first | (simp at ho; done) | (obtain rfl := Option.some.inj ho))
    all_goals (rintro L V wx hL hpre ⟨J1, J2, J3, J4, J5, J6, J7, K0, K1, K2, K3, K4, K5, K6, K7, K8⟩ a hdef hev hold)
    · have ex := hold 3 (by simp) (by intro j hj; rcases j with _ | _ | _ | _ | _ | _ | _ | _ | j <;> simp [dstAt])
      exact st_load ho rfl 28 _ rfl ga (ex.trans rfl) J6 _ Try.underlying28 rfl (by kernel_rfl) ⟨J1, J2, J3, J4, J5, J6, J7, by simp [updV], by simpa [Upd, updV] using K1, by simpa [Upd, updV] using K2, by simpa [Upd, updV] using K3, by simpa [Upd, updV] using K4, by simpa [Upd, updV] using K5, by simpa [Upd, updV] using K6, by simpa [Upd, updV] using K7, by simpa [Upd, updV] using K8⟩
    · have p0 := hpre 0 (by decide)
      have ev := (hev 0 17 p0 rfl (by simp) (by simp)).trans (K0 p0)
      refine st_call ho rfl rfl Try.func12 (by kernel_rfl) rfl #[.agg #[.int .i64 ah, .int .u64 al]] (by simp [ev]) ((bitsA.out _).mono ?_)
      rintro _ wy ⟨rfl, hb⟩
      exact ⟨_, rfl, below_then J1 hb, J2, J3, Nat.lt_of_lt_of_le J4 hb.size, Nat.lt_of_lt_of_le J5 hb.size, J6.below hb, J7.below hb, by simpa [Upd, updV] using K0, by simp [updV], by simpa [Upd, updV] using K2, by simpa [Upd, updV] using K3, by simp [Upd, updV]; intro h; obtain ⟨g, e1, e2, e3, R⟩ := K4 h; exact ⟨g, e1, e2, e3, R.below hb⟩, by simp [Upd, updV]; intro h; obtain ⟨g, e1, e2, e3, R⟩ := K5 h; exact ⟨g, e1, e2, e3, R.below hb⟩, by simpa [Upd, updV] using K6, by simpa [Upd, updV] using K7, by simpa [Upd, updV] using K8⟩
    · have ex := hold 4 (by simp) (by intro j hj; rcases j with _ | _ | _ | _ | _ | _ | _ | _ | j <;> simp [dstAt])
      exact st_load ho rfl 28 _ rfl gb (ex.trans rfl) J7 _ Try.underlying28 rfl (by kernel_rfl) ⟨J1, J2, J3, J4, J5, J6, J7, by simpa [Upd, updV] using K0, by simpa [Upd, updV] using K1, by simp [updV], by simpa [Upd, updV] using K3, by simpa [Upd, updV] using K4, by simpa [Upd, updV] using K5, by simpa [Upd, updV] using K6, by simpa [Upd, updV] using K7, by simpa [Upd, updV] using K8⟩
    · have p2 := hpre 2 (by decide)
      have ev := (hev 2 19 p2 rfl (by simp) (by simp)).trans (K2 p2)
      refine st_call ho rfl rfl Try.func12 (by kernel_rfl) rfl #[.agg #[.int .i64 ah, .int .u64 bl]] (by simp [ev]) ((bitsB.out _).mono ?_)
      rintro _ wy ⟨rfl, hb⟩
      exact ⟨_, rfl, below_then J1 hb, J2, J3, Nat.lt_of_lt_of_le J4 hb.size, Nat.lt_of_lt_of_le J5 hb.size, J6.below hb, J7.below hb, by simpa [Upd, updV] using K0, by simpa [Upd, updV] using K1, by simpa [Upd, updV] using K2, by simp [updV], by simp [Upd, updV]; intro h; obtain ⟨g, e1, e2, e3, R⟩ := K4 h; exact ⟨g, e1, e2, e3, R.below hb⟩, by simp [Upd, updV]; intro h; obtain ⟨g, e1, e2, e3, R⟩ := K5 h; exact ⟨g, e1, e2, e3, R.below hb⟩, by simpa [Upd, updV] using K6, by simpa [Upd, updV] using K7, by simpa [Upd, updV] using K8⟩
    · refine st_alloc ho rfl 23 rfl _ zero128 ?_
      intro g wy hg R hb
      have n6 : ¬ L 6 = true := fun h => by rw [K7 h] at hL; cases hL
      exact ⟨below_then J1 hb, J2, J3, Nat.lt_of_lt_of_le J4 hb.size, Nat.lt_of_lt_of_le J5 hb.size, J6.below hb, J7.below hb, by simpa [Upd, updV] using K0, by simpa [Upd, updV] using K1, by simpa [Upd, updV] using K2, by simpa [Upd, updV] using K3, fun _ => ⟨g, by simp [updV], Nat.lt_of_lt_of_le J4 hg, Nat.lt_of_lt_of_le J5 hg, by simpa [Upd, n6] using R⟩, by simp [Upd, updV]; intro h; obtain ⟨g, e1, e2, e3, R⟩ := K5 h; exact ⟨g, e1, e2, e3, R.below hb⟩, by simp [Upd, updV]; intro h h2; obtain ⟨g', d1, d2, d3, R'⟩ := K5 h; rw [d1] at h2; injection h2 with h3; injection h3 with h4; injection h4 with h5; have := R'.lt; omega, by simp [Upd], by simpa [Upd, updV] using K8⟩
    · refine st_alloc ho rfl 23 rfl _ zero128 ?_
      intro g wy hg R hb
      have n7 : ¬ L 7 = true := fun h => by rw [K8 h] at hL; cases hL
      exact ⟨below_then J1 hb, J2, J3, Nat.lt_of_lt_of_le J4 hb.size, Nat.lt_of_lt_of_le J5 hb.size, J6.below hb, J7.below hb, by simpa [Upd, updV] using K0, by simpa [Upd, updV] using K1, by simpa [Upd, updV] using K2, by simpa [Upd, updV] using K3, by simp [Upd, updV]; intro h; obtain ⟨g, e1, e2, e3, R⟩ := K4 h; exact ⟨g, e1, e2, e3, R.below hb⟩, fun _ => ⟨g, by simp [updV], Nat.lt_of_lt_of_le J4 hg, Nat.lt_of_lt_of_le J5 hg, by simpa [Upd, n7] using R⟩, by simp [Upd, updV]; intro h h2; obtain ⟨g', d1, d2, d3, R'⟩ := K4 h; rw [d1] at h2; injection h2 with h3; injection h3 with h4; injection h4 with h5; have := R'.lt; omega, by simpa [Upd, updV] using K7, by simp [Upd]⟩
    · have p1 := hpre 1 (by decide)
      have p4 := hpre 4 (by decide)
      have p5 := hpre 5 (by decide)
      obtain ⟨g, e1, e2, e3, R⟩ := K4 p4
      obtain ⟨g', d1, d2, d3, R'⟩ := K5 p5
      have hne : g' ≠ g := fun h => K6 p4 p5 (by rw [e1, d1, h])
      rw [if_neg (by rw [hL]; simp)] at R
      have ep := (hev 4 8 p4 rfl (by simp) (by simp)).trans e1
      have ev := (hev 1 18 p1 rfl (by simp) (by simp)).trans (K1 p1)
      refine st_store ho rfl 23 _ _ rfl g _ ep ev R (info128 _) (by rw [vec_size]; exact (vec_size _ _).symm) (vec_one _ _) ?_
      intro wy RZ S
      exact ⟨S.below J1 (by omega), J2, J3, by rw [S.size]; exact J4, by rw [S.size]; exact J5, J6.stored S (by omega), J7.stored S (by omega), by simpa [Upd, updV] using K0, by simpa [Upd, updV] using K1, by simpa [Upd, updV] using K2, by simpa [Upd, updV] using K3, fun _ => ⟨g, by simp [updV, e1], e2, e3, by simpa [Upd] using RZ⟩, fun _ => ⟨g', by simp [updV, d1], d2, d3, by simpa [Upd] using R'.stored S hne⟩, by simpa [Upd, updV] using K6, fun _ => by simp [Upd, p4], by simpa [Upd, updV] using K8⟩
    · have p3 := hpre 3 (by decide)
      have p4 := hpre 4 (by decide)
      have p5 := hpre 5 (by decide)
      obtain ⟨g, e1, e2, e3, R⟩ := K5 p5
      obtain ⟨g', d1, d2, d3, R'⟩ := K4 p4
      have hne : g' ≠ g := fun h => K6 p4 p5 (by rw [e1, d1, h])
      rw [if_neg (by rw [hL]; simp)] at R
      have ep := (hev 5 9 p5 rfl (by simp) (by simp)).trans e1
      have ev := (hev 3 20 p3 rfl (by simp) (by simp)).trans (K3 p3)
      refine st_store ho rfl 23 _ _ rfl g _ ep ev R (info128 _) (by rw [vec_size]; exact (vec_size _ _).symm) (vec_one _ _) ?_
      intro wy RZ S
      exact ⟨S.below J1 (by omega), J2, J3, by rw [S.size]; exact J4, by rw [S.size]; exact J5, J6.stored S (by omega), J7.stored S (by omega), by simpa [Upd, updV] using K0, by simpa [Upd, updV] using K1, by simpa [Upd, updV] using K2, by simpa [Upd, updV] using K3, fun _ => ⟨g', by simp [updV, d1], d2, d3, by simpa [Upd] using R'.stored S hne⟩, fun _ => ⟨g, by simp [updV, e1], e2, e3, by simpa [Upd] using RZ⟩, by simpa [Upd, updV] using K6, by simpa [Upd, updV] using K7, fun _ => by simp [Upd, p5]⟩
  · rintro V wx ⟨J1, J2, J3, J4, J5, J6, J7, K0, K1, K2, K3, K4, K5, K6, K7, K8⟩
    obtain ⟨gx, e1, e2, e3, RX⟩ := K4 rfl
    obtain ⟨gy, d1, d2, d3, RY⟩ := K5 rfl
    have hne : gx ≠ gy := fun h => K6 rfl rfl (by rw [e1, d1, h])
    rw [if_pos rfl] at RX RY
    have v0 := K0 rfl
    have v1 := K1 rfl
    have v2 := K2 rfl
    have v3 := K3 rfl
    clear K0 K1 K2 K3 K4 K5 K6 K7 K8 RA RB B1
    simp only [fill, if_true, dstAt, v0, v1, v2, v3, e1, d1]
    simp [Act.put]
    clear v0 v1 v2 v3 e1 d1 V
    go_wp2_with fail
    have cx : wx.cell? ⟨gx, 127, none⟩ = some (.int .i64 (bit ua 127)) := (RX.cell 127).trans (vec_get _ _ _ (by omega))
    have cy : wx.cell? ⟨gy, 127, none⟩ = some (.int .i64 (bit ub 127)) := (RY.cell 127).trans (vec_get _ _ _ (by omega))
    have fx := RX.frozen 127
    have fy := RY.frozen 127
    have ba := bit_bd ua 127
    have bb := bit_bd ub 127
    have w1e : IntKind.i64.wrap (1 - bit ua 127) = 1 - bit ua 127 := by rw [IntKind.wrap_i64]; omega
    have w2e : IntKind.i64.wrap (1 - bit ub 127) = 1 - bit ub 127 := by rw [IntKind.wrap_i64]; omega
    go_region
    have TX := (((RX.fill (k := 127) (x := 1 - bit ua 127) (f' := bit (tgl ua)) (fun i hi => bit_tgl ua i ua_lt hi)).other ⟨gy, 127, none⟩ hne (.int .i64 (1 - bit ub 127)))).drew
    have TY := ((((RY.other ⟨gx, 127, none⟩ (fun h => hne h.symm) (.int .i64 (1 - bit ua 127)))).fill (k := 127) (x := 1 - bit ub 127) (f' := bit (tgl ub)) (fun i hi => bit_tgl ub i ub_lt hi))).drew
    have TA := (((J6.other ⟨gx, 127, none⟩ (by simp; omega) (.int .i64 (1 - bit ua 127))).other ⟨gy, 127, none⟩ (by simp; omega) (.int .i64 (1 - bit ub 127)))).drew
    have TB := (((J7.other ⟨gx, 127, none⟩ (by simp; omega) (.int .i64 (1 - bit ua 127))).other ⟨gy, 127, none⟩ (by simp; omega) (.int .i64 (1 - bit ub 127)))).drew
    have TJ := below_dr (below_set (below_set J1 (show w.heap.size ≤ gx by omega) 127 (.int .i64 (1 - bit ua 127))) (show w.heap.size ≤ gy by omega) 127 (.int .i64 (1 - bit ub 127)))
    clear cx cy fx fy ba bb w1e w2e RX RY J6 J7 J1 J4 J5
    generalize ((wx.setCell ⟨gx, 127, none⟩ (.int .i64 (1 - bit ua 127))).setCell ⟨gy, 127, none⟩ (.int .i64 (1 - bit ub 127))).drew = wz at *
    have ta_lt : tgl ua < 2 ^ 128 := Nat.mod_lt _ (Nat.two_pow_pos 128)
    have tb_lt : tgl ub < 2 ^ 128 := Nat.mod_lt _ (Nat.two_pow_pos 128)
    have top := cmpN_top _ _ ta_lt tb_lt
    have TOP := Lib.hid top
    clear top ta_lt tb_lt ua_lt ub_lt bitsA bitsB
    generalize tgl ua = ta at *
    generalize tgl ub = tb at *
    go_wp2
    go_loopw [7, 10] (fun c i wr => ∃ k : Nat, k ≤ 128 ∧ i = .int .i64 ((k : Int) - 1) ∧ c = .int .i64 (cmpN (ta / 2 ^ k) (tb / 2 ^ k)) ∧ Row wr gx (bv ta) 23 ∧ Row wr gy (bv tb) 23 ∧ Row wr ga #[.int .i64 ah, .int .u64 al] 28 ∧ Row wr gb #[.int .i64 ah, .int .u64 bl] 28 ∧ Below w.heap.size w wr) (fun _ i _ => (intOf i + 1).toNat)
    case atStart => exact ⟨128, by omega, rfl, by rw [TOP.out], TX, TY, TA, TB, TJ⟩
    case round =>
      obtain ⟨k, hk, rfl, rfl, QX, QY, QA, QB, BB⟩ := hrel
      clear TX TY TA TB TJ
      by_cases hgo : 0 < k ∧ cmpN (ta / 2 ^ k) (tb / 2 ^ k) = 0
      · obtain ⟨hk0, hz⟩ := hgo
        obtain ⟨m, rfl⟩ : ∃ m, k = m + 1 := ⟨k - 1, by omega⟩
        have hs := cmpN_step ta tb m hz
        have HS := Lib.hid hs
        rw [hz]
        clear hs hz
        have cx : wr.cell? ⟨gx, m, none⟩ = some (.int .i64 (bit ta m)) := (QX.cell m).trans (vec_get _ _ _ (by omega))
        have cy : wr.cell? ⟨gy, m, none⟩ = some (.int .i64 (bit tb m)) := (QY.cell m).trans (vec_get _ _ _ (by omega))
        have ba := bit_bd ta m
        have bb := bit_bd tb m
        have h0 : (0 : Int) ≤ ((m + 1 : Nat) : Int) - 1 := by omega
        have h0' : (0 : Int) ≤ (m : Int) := by omega
        have h1' : (m : Int) < 128 := by omega
        have we : IntKind.i64.wrap (bit ta m - bit tb m) = bit ta m - bit tb m := by rw [IntKind.wrap_i64]; omega
        go_wp2
        go_quiet (fail)
        go_wp2
        go_roundw
        case rel => exact ⟨m, by omega, by go_num, by rw [HS.out], QX.drewN _, QY.drewN _, QA.drewN _, QB.drewN _, below_dN BB _⟩
        case measure => simp [intOf]
      · have hfin : cmpN (ta / 2 ^ k) (tb / 2 ^ k) = cmpN ta tb := by
          by_cases e : k = 0
          · subst e; simp
          · exact cmpN_end ta tb k (fun h => hgo ⟨by omega, h⟩)
        have hbd := cmpN_bd ta tb
        have hcond : (k : Int) - 1 < 0 ∨ ((0 : Int) ≤ (k : Int) - 1 ∧ (cmpN ta tb == 0) = false) := by
          by_cases e : k = 0
          · left; omega
          · right; refine ⟨by omega, ?_⟩
            rw [← hfin]; simp; exact fun h => hgo ⟨by omega, h⟩
        rw [hfin]
        clear hfin hgo
        generalize cmpN ta tb = c at *
        have a0 : wr.cell? ⟨ga, 0, none⟩ = some (.int .i64 ah) := QA.cell 0
        have a1 : wr.cell? ⟨ga, 1, none⟩ = some (.int .u64 al) := QA.cell 1
        have b0 : wr.cell? ⟨gb, 0, none⟩ = some (.int .i64 ah) := QB.cell 0
        have b1 : wr.cell? ⟨gb, 1, none⟩ = some (.int .u64 bl) := QB.cell 1
        rcases hcond with hc | ⟨hc, hc2⟩
        all_goals
          go_wp2_with fail
          refine (cmpA.out _).mono ?_
          rintro _ w8 ⟨rfl, B8⟩
          replace QA := QA.below B8
          replace QB := QB.below B8
          replace BB := below_then BB B8
          have a0 : w8.cell? ⟨ga, 0, none⟩ = some (.int .i64 ah) := QA.cell 0
          have a1 : w8.cell? ⟨ga, 1, none⟩ = some (.int .u64 al) := QA.cell 1
          have b0 : w8.cell? ⟨gb, 0, none⟩ = some (.int .i64 ah) := QB.cell 0
          have b1 : w8.cell? ⟨gb, 1, none⟩ = some (.int .u64 bl) := QB.cell 1
          clear B8
          go_wp2_with fail
          refine (cmpB.out _).mono ?_
          rintro _ w9 ⟨rfl, B9⟩
          replace BB := below_then BB B9
          go_wp2
          go_ret
          exact ⟨rfl, BB⟩

theorem wideOrders_any (ah al bh bl : Int) (same : Bool) (w : World) (h1 : Wd.I64 ah) (h2 : Wd.U64 al) (h3 : Wd.I64 bh) (h4 : Wd.U64 bl) :
    Calls Try.prog 8 #[.agg #[.int .i64 ah, .int .u64 al], .agg #[.int .i64 bh, .int .u64 bl], .bool same] w fun e w' => e = .returned (.bool true) ∧ Below w.heap.size w w' := by
  cases same with
  | false => exact wideOrders_no ah al bh bl w h1 h2 h3 h4
  | true => exact wideOrders_same ah al bh bl w h1 h2 h3 h4
end Go.Proofs.Ytimgilkchbcjmaa
