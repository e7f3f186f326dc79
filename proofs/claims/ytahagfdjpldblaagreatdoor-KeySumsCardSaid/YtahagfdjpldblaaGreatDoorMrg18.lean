/-
  Own texts, several in one (Ref01, Law5s).
-/
import Derived.Test.YtahagfdjpldblaaGreatDoorProg
import Derived.Test.YtahagfdjpldblaaGreatDoorMrg17
import Derived.Test.YtahagfdjpldblaaGreatDoorMrg6
import Derived.Deep.QuietTactic
import Derived.BigQuiet
import Derived.Deep.RegionHeld3
import Derived.Test.YtahagfdjpldblaaGreatDoorMrg15
import Derived.Test.YtahagfdjpldblaaGreatDoorMrg16
import Derived.Carry
namespace Go.Proofs.YtahagfdjpldblaaGreatDoor
open Go.RowKit
set_option linter.unusedVariables false
set_option linter.unusedSimpArgs false

theorem zero128 (w : World) : (zeroValue 36).run Tryz.prog w = .ok (.agg (vec 128 fun _ => 0)) w := by kernel_rfl
theorem info128 (f : Nat → Int) : (Tryz.prog.info? 36).map (·.size) = some (vec 128 f).size := by rw [vec_size]; kernel_rfl

set_option maxHeartbeats 1000000 in
theorem refAdd_any (a b : Nat) (w : World) :
    Calls Tryz.prog 11 #[.agg (bv a), .agg (bv b)] w fun e w' => e = .returned (.agg (bv (a + b))) ∧ Below w.heap.size w w' := by
  go_enter Tryz.func11, Tryz.ntmps11
  go_wp2_with (first | (refine ev_box (N := 2) rfl rfl 36 _ rfl _ rfl ?_; intro ga w1 hga RA B1) | (refine ev_box (N := 3) rfl rfl 36 _ rfl _ rfl ?_; intro gb w2 hgb RB B2; replace RA := RA.below B2; replace B1 := below_then B1 B2; clear B2) | (refine ev_alloc (N := 4) rfl rfl 36 rfl _ zero128 ?_; intro gr w3 hgr RR B2; replace hgr := Nat.le_trans B1.size hgr; replace RA := RA.below B2; replace RB := RB.below B2; replace B1 := below_then B1 B2; clear B2) | (refine ev_alloc (N := 5) rfl rfl 36 rfl _ zero128 ?_; intro go w4 hgo RO B2; have na := Nat.lt_of_lt_of_le RA.lt hgo; have nb := Nat.lt_of_lt_of_le RB.lt hgo; have nr := Nat.lt_of_lt_of_le RR.lt hgo; replace hgo := Nat.le_trans B1.size hgo; replace RA := RA.below B2; replace RB := RB.below B2; replace RR := RR.below B2; replace B1 := below_then B1 B2; clear B2))
  go_loopw [6, 7] (fun c i wr => ∃ k : Nat, k ≤ 128 ∧ i = .int .i64 k ∧ c = .int .i64 (carry a b k : Int) ∧ Row wr go (vec 128 fun i => if i < k then bit (a + b) i else 0) 36 ∧ Row wr ga (bv a) 36 ∧ Row wr gb (bv b) 36 ∧ Row wr gr (vec 128 fun _ => 0) 36 ∧ Below w.heap.size w wr) (fun _ i _ => 128 - (intOf i).toNat)
  case atStart => exact ⟨0, by omega, rfl, by rw [carry_zero]; rfl, by simpa using RO, RA, RB, RR, B1⟩
  case round =>
    obtain ⟨k, hk, rfl, rfl, QO, QA, QB, QR, BB⟩ := hrel
    by_cases hlt : k < 128
    · have ca : wr.cell? ⟨ga, k, none⟩ = some (.int .i64 (bit a k)) := (QA.cell k).trans (vec_get _ _ _ hlt)
      have cb : wr.cell? ⟨gb, k, none⟩ = some (.int .i64 (bit b k)) := (QB.cell k).trans (vec_get _ _ _ hlt)
      have co : wr.cell? ⟨go, k, none⟩ = some (.int .i64 0) := ((QO.cell k).trans (vec_get _ _ _ hlt)).trans (by simp)
      have fo := QO.frozen k
      have hcb := carry_bd a b k
      have hab := bit_bd a k
      have hbb := bit_bd b k
      have h0 : (0 : Int) ≤ (k : Int) := by omega
      have h1 : (k : Int) < 128 := by omega
      have e1 : IntKind.i64.wrap (bit a k + bit b k) = bit a k + bit b k := by rw [IntKind.wrap_i64]; omega
      have e2 : IntKind.i64.wrap (bit a k + bit b k + (carry a b k : Int)) = bit a k + bit b k + (carry a b k : Int) := by rw [IntKind.wrap_i64]; omega
      go_wp2
      go_quiet (fail)
      go_wp2
      have hsum : (bit a k + bit b k + (carry a b k : Int)) % 2 = bit (a + b) k := by unfold bit; rw [sum_bit]; omega
      have hcar : (bit a k + bit b k + (carry a b k : Int)) / 2 = (carry a b (k + 1) : Int) := by unfold bit; rw [carry_succ]; omega
      go_roundw
      case rel =>
        exact ⟨k + 1, by omega, by go_num, by rw [hcar], (QO.drewN nq).fill (fun i hi => by rw [hsum]; exact fill_step (bit (a + b)) (fun _ => 0) k i), (QA.drewN nq).other _ (by simp; omega) _, (QB.drewN nq).other _ (by simp; omega) _, (QR.drewN nq).other _ (by simp; omega) _, below_set (below_dN BB nq) hgo _ _⟩
      case measure => simp [intOf]; omega
    · have hk0 : k = 128 := by omega
      subst hk0
      have QO' : Row wr go (bv (a + b)) 36 := QO.as (fun i hi => by rw [if_pos hi])
      clear QO
      go_wp2_with (first | (refine ev_load (N := 28) rfl rfl 36 _ rfl go rfl QO' _ Tryz.underlying36 rfl (info128 _) ?_) | (refine ev_store rfl 36 _ _ rfl gr _ rfl rfl QR (info128 _) (by rw [vec_size]; exact (vec_size _ _).symm) (vec_one _ _) rfl ?_; intro w5 RZ S5))
      exact bodyPost_ret (v := .agg (bv (a + b))) (res_row rfl _ _ RZ rfl Tryz.underlying36 rfl (info128 _)) rfl ⟨rfl, S5.below BB hgr⟩
set_option maxHeartbeats 1000000 in
theorem refBits_any (h l : Int) (hh : Wd.I64 h) (hl : Wd.U64 l) (w : World) :
    Calls Tryz.prog 10 #[.int .i64 h, .int .u64 l] w fun e w' => e = .returned (.agg (bv (u128 (Wd.num h l)))) ∧ Below w.heap.size w w' := by
  go_enter Tryz.func10, Tryz.ntmps10
  go_wp2_with (first | (refine ev_alloc (N := 4) rfl rfl 36 rfl _ zero128 ?_; intro gr w1 hgr RR B1) | (refine ev_alloc (N := 5) rfl rfl 36 rfl _ zero128 ?_; intro go w4 hgo RO B2; have nr := Nat.lt_of_lt_of_le RR.lt hgo; replace hgo := Nat.le_trans B1.size hgo; replace RR := RR.below B2; replace B1 := below_then B1 B2; clear B2))
  go_loopw [6] (fun i wr => ∃ k : Nat, k ≤ 64 ∧ i = .int .i64 k ∧ Row wr go (vec 128 fun i => if i < k ∨ (64 ≤ i ∧ i < 64 + k) then bit (u128 (Wd.num h l)) i else 0) 36 ∧ Row wr gr (vec 128 fun _ => 0) 36 ∧ Below w.heap.size w wr) (fun i _ => 64 - (intOf i).toNat)
  case atStart => exact ⟨0, by omega, rfl, RO.as (fun i hi => by rw [if_neg (by omega)]), RR, B1⟩
  case round =>
    obtain ⟨k, hk, rfl, QO, QR, BB⟩ := hrel
    clear RO RR B1
    by_cases hlt : k < 64
    · have c0 : wr.cell? ⟨go, k, none⟩ = some (.int .i64 0) := ((QO.cell k).trans (vec_get _ _ _ (by omega))).trans (by rw [if_neg (by omega)])
      have c1 : wr.cell? ⟨go, 64 + k, none⟩ = some (.int .i64 0) := ((QO.cell (64 + k)).trans (vec_get _ _ _ (by omega))).trans (by rw [if_neg (by omega)])
      have f0 := QO.frozen k
      have f1 := QO.frozen (64 + k)
      have h0 : (0 : Int) ≤ (k : Int) := by omega
      have h1 : (k : Int) < 64 := by omega
      have b0 := num_bit_lo h l hl k hlt
      have b1 := num_bit_hi h l hh hl k hlt
      have p0 : 0 ≤ l / 2 ^ k := Int.ediv_nonneg hl.1 (by exact_mod_cast Nat.zero_le _)
      have p1 : 0 ≤ IntKind.u64.wrap h / 2 ^ k := Int.ediv_nonneg (by rw [IntKind.wrap_u64]; omega) (by exact_mod_cast Nat.zero_le _)
      have H0 := Lib.hid b0
      have H1 := Lib.hid b1
      clear b0 b1
      go_wp2
      go_roundw
      case rel =>
        refine ⟨k + 1, by omega, by go_num, ?_, (QR.other _ (by simp; omega) _).other _ (by simp; omega) _, below_set (below_set BB hgo _ _) hgo _ _⟩
        refine Row.fill (f := fun i => if i = k then bit (u128 (Wd.num h l)) k else if i < k ∨ (64 ≤ i ∧ i < 64 + k) then bit (u128 (Wd.num h l)) i else 0) ?_ ?_
        · exact QO.fill (fun i hi => by rw [H0.out])
        · intro i hi
          rw [← H1.out]
          by_cases e1 : i = 64 + k
          · subst e1; rw [if_pos rfl, if_pos (by omega)]
          · rw [if_neg e1]
            by_cases e2 : i = k
            · subst e2; rw [if_pos rfl, if_pos (by omega)]
            · rw [if_neg e2]
              by_cases e3 : i < k ∨ (64 ≤ i ∧ i < 64 + k)
              · rw [if_pos e3, if_pos (by omega)]
              · rw [if_neg e3, if_neg (by omega)]
      case measure => simp [intOf]; omega
    · have hk0 : k = 64 := by omega
      subst hk0
      have QO' : Row wr go (bv (u128 (Wd.num h l))) 36 := QO.as (fun i hi => by rw [if_pos (by omega)])
      clear QO
      go_wp2_with (first | (refine ev_load (N := 27) rfl rfl 36 _ rfl go rfl QO' _ Tryz.underlying36 rfl (info128 _) ?_) | (refine ev_store rfl 36 _ _ rfl gr _ rfl rfl QR (info128 _) (by rw [vec_size]; exact (vec_size _ _).symm) (vec_one _ _) rfl ?_; intro w7 RZ S7))
      exact bodyPost_ret (v := .agg (bv (u128 (Wd.num h l)))) (res_row rfl _ _ RZ rfl Tryz.underlying36 rfl (info128 _)) rfl ⟨rfl, S7.below BB hgr⟩

set_option maxHeartbeats 1000000 in
theorem refNumber_any (m : Nat) (hm : m < 2 ^ 128) (w : World) :
    Calls Tryz.prog 12 #[.agg (bv m)] w fun e w' => e = .returned (.tuple #[.int .i64 (Wd.hi (m : Int)), .int .u64 (Wd.lo (m : Int))]) ∧ Below w.heap.size w w' := by
  have hlo : ((m % 2 ^ 64 : Nat) : Int) = Wd.lo (m : Int) := by unfold Wd.lo; omega
  have hhi : wrap64 ((m / 2 ^ 64 % 2 ^ 64 : Nat) : Int) = Wd.hi (m : Int) := by unfold Wd.hi wrap64; omega
  have HLO := Lib.hid hlo
  have HHI := Lib.hid hhi
  clear hlo hhi hm
  go_enter Tryz.func12, Tryz.ntmps12
  go_wp2_with (first | (refine ev_box (N := 1) rfl rfl 36 _ rfl _ rfl ?_; intro ga w1 hga RA B1))
  go_loop [4, 5, 6] (fun h l i => ∃ k : Nat, k ≤ 64 ∧ i = .int .i64 k ∧ l = .int .u64 ((m % 2 ^ k : Nat) : Int) ∧ h = .int .u64 ((m / 2 ^ 64 % 2 ^ k : Nat) : Int)) (fun _ _ i => 64 - (intOf i).toNat)
  case atStart => exact ⟨0, by omega, rfl, by simp [Nat.mod_one], by simp [Nat.mod_one]⟩
  case round =>
    obtain ⟨k, hk, rfl, rfl, rfl⟩ := hrel
    by_cases hlt : k < 64
    · have c0 : w1.cell? ⟨ga, k, none⟩ = some (.int .i64 (bit m k)) := (RA.cell k).trans (vec_get _ _ _ (by omega))
      have c1 : w1.cell? ⟨ga, 64 + k, none⟩ = some (.int .i64 (bit m (64 + k))) := (RA.cell (64 + k)).trans (vec_get _ _ _ (by omega))
      have h0 : (0 : Int) ≤ (k : Int) := by omega
      have h1 : (k : Int) < 64 := by omega
      have s0 := sum_low m k hlt
      have s1 := sum_low (m / 2 ^ 64) k hlt
      rw [← bit_high] at s1
      have hb0 := bit_bd m k
      have hb1 := bit_bd m (64 + k)
      have g1 := Nat.mod_lt m (Nat.two_pow_pos k)
      have g2 := Nat.mod_lt (m / 2 ^ 64) (Nat.two_pow_pos k)
      generalize m % 2 ^ k = A at *
      generalize m / 2 ^ 64 % 2 ^ k = B at *
      have H0 := Lib.hid s0
      have H1 := Lib.hid s1
      clear s0 s1 g1 g2
      go_wp2
      go_round
      case rel => exact ⟨k + 1, by omega, by go_num, by rw [← H0.out], by rw [← H1.out]⟩
      case measure => simp [intOf]; omega
    · have hk0 : k = 64 := by omega
      subst hk0
      rw [HLO.out]
      generalize hH : ((m / 2 ^ 64 % 2 ^ 64 : Nat) : Int) = H at *
      have KH := Lib.hid hH
      clear hH
      go_wp2
      go_ret2
      refine ⟨?_, B1⟩
      rw [← HHI.out]
      exact congrArg (fun x => Ending.returned (.tuple #[.int .i64 x, .int .u64 (Wd.lo (m : Int))])) rfl

end Go.Proofs.YtahagfdjpldblaaGreatDoor

namespace Go.Proofs.YtahagfdjpldblaaGreatDoor
open Go.RowKit Ky
open Go.Maps (Keyed)
set_option linter.unusedVariables false
set_option linter.unusedSimpArgs false

theorem u128_add (s z : Int) : bv (u128 s + u128 z) = bv (u128 (s + z)) := bv_eq (by unfold u128; omega)
set_option maxHeartbeats 4000000 in
set_option maxRecDepth 100000 in
theorem keySums_law (a : Option Addr) (len cap : Nat) (l : List (K × Int)) (w : World) (hG : Glb5 w) (hl : l.length = len) (hok : ∀ x ∈ l, okm x) (hE : ElsAt mc 4 mk0 w a l) :
    Calls Tryz.prog 3 #[.slice a len cap] w fun e w' => e = .returned (.bool true) ∧ Below w.heap.size w w' := by
  have HG := Lib.hid hG
  have HE := Lib.hid hE
  have HOK := Lib.hid hok
  have zer : Hid (∀ w : World, Calls Tryz.prog 10 #[.int .i64 0, .int .u64 0] w fun e w' => e = .returned (.agg (bv (u128 (Wd.num 0 0)))) ∧ Below w.heap.size w w') := Lib.hid (refBits_any 0 0 (by unfold Wd.I64; omega) (by unfold Wd.U64; omega))
  subst hl
  clear hG hE hok
  go_enter Tryz.func3, Tryz.ntmps3
  go_wp2_with fail
  refine (awake5 _ HG.out).mono ?_
  rintro _ w2 ⟨rfl, hb⟩
  have HB2 := Lib.hid hb
  clear hb HG
  have mm : ∀ (t : TypeId) (W : World), (Instr.makeMap t none).run Tryz.prog W = .ok (.map (some W.heap.size)) (W.alloc (.map #[] 0)) := fun _ _ => rfl
  by_cases hlen : 60 < l.length
  · have h1 : (60 : Int) < (l.length : Int) := by omega
    go_wp2_with fail
    go_ret
    exact ⟨rfl, HB2.out⟩
  · have h1 : ¬ (60 : Int) < (l.length : Int) := by omega
    have HL := Lib.hid hlen
    clear hlen
    go_wp2_with fail
    have hM0 : MapIs (w2.alloc (.map #[] 0)) Tryz.prog 29 K.val wval w2.heap.size 0 (sG ((l.map sms).take 0)) := by
      rw [List.take_zero, sG_nil]
      exact MapIs.new w2 Tryz.prog 29 K.val wval
    have HB3 := Lib.hid (below_alloc HB2.out (.map #[] 0))
    obtain ⟨b, hb⟩ : ∃ b, b = w2.heap.size := ⟨_, rfl⟩
    have hbw : w.heap.size ≤ b := by rw [hb]; exact HB2.out.size
    rw [← hb] at hM0 ⊢
    clear hb HB2
    generalize w2.alloc (.map #[] 0) = w3 at *
    have HM3 := Lib.hid hM0
    have HBW := Lib.hid hbw
    clear hM0 mm h1 hbw
    go_loopw [26] (fun i wr => ∃ k : Nat, k ≤ l.length ∧ i = .int .i64 k ∧ MapIs wr Tryz.prog 29 K.val wval b k (sG ((l.map sms).take k)) ∧ Below w.heap.size w wr) (fun i _ => l.length - (intOf i).toNat)
    case atStart => exact ⟨0, by omega, rfl, HM3.out, HB3.out⟩
    case round =>
      obtain ⟨k, hk, rfl, hM, BB⟩ := hrel
      have HM := Lib.hid hM
      have HBB := Lib.hid BB
      clear hM BB
      by_cases hlt : k < l.length
      · have hk1 : (0 : Int) ≤ (k : Int) := by omega
        have hk2 : (k : Int) < (l.length : Int) := by omega
        obtain ⟨bl, off, rfl, hcells⟩ : ∃ bl off, a = some ⟨bl, off, none⟩ ∧ ∀ i, i < l.length → w.rangeAt bl (off + i * 4) (mc (l.getD i mk0)) := by
          rcases HE.out with h | h
          · exact absurd hlt (by rw [h]; simp)
          · exact h
        have HCE := Lib.hid hcells
        have hx := hcells k hlt
        have hox := HOK.out _ (getD_mem (d := mk0) hlt)
        generalize hgx : l.getD k mk0 = x at *
        have RX : wr.rangeAt bl (off + k * 4) (mc x) := range_below hx HBB.out
        have c0 : wr.cell? ⟨bl, off + k * 4, none⟩ = some (.int .u32 (x.1.a : Int)) := RX 0 _ rfl
        have c1 : wr.cell? ⟨bl, off + k * 4 + 1, none⟩ = some (.int .u16 (x.1.e : Int)) := RX 1 _ rfl
        have c2 : wr.cell? ⟨bl, off + k * 4 + 2, none⟩ = some (.int .u16 (x.1.p : Int)) := RX 2 _ rfl
        have c3 : wr.cell? ⟨bl, off + k * 4 + 3, none⟩ = some (.int .i64 x.2) := RX 3 _ rfl
        have HX := Lib.hid hgx
        clear hcells hx hgx RX
        go_wp2_with fail
        obtain ⟨g6, hg6⟩ : ∃ g, g = wr.heap.size := ⟨_, rfl⟩
        have hBx := below_alloc (Below.refl _ wr) (.cells #[.int .u32 (x.1.a : Int), .int .u16 (x.1.e : Int), .int .u16 (x.1.p : Int), .int .i64 x.2] 31)
        have Rg6 := Row.new wr #[.int .u32 (x.1.a : Int), .int .u16 (x.1.e : Int), .int .u16 (x.1.p : Int), .int .i64 x.2] 31
        have hb8 : b < g6 := by rw [hg6]; exact HM.out.lt
        rw [← hg6] at Rg6 ⊢
        have HM1 := Lib.hid (HM.out.below hBx)
        have HBB1 := Lib.hid (below_then HBB.out hBx)
        clear hBx hg6 HM HBB c0 c1 c2 c3
        generalize wr.alloc (.cells #[.int .u32 (x.1.a : Int), .int .u16 (x.1.e : Int), .int .u16 (x.1.p : Int), .int .i64 x.2] 31) = wz at *
        have hblk : ∀ w', wz.grownBy w' (some b) → Row w' g6 #[.int .u32 (x.1.a : Int), .int .u16 (x.1.e : Int), .int .u16 (x.1.p : Int), .int .i64 x.2] 31 := fun w' h => (h.block g6 Rg6.lt (by intro e; injection e with e; omega)).trans Rg6
        have LX1 : ∀ w', wz.grownBy w' (some b) → w'.rangeAt g6 0 [.int .u32 (x.1.a : Int), .int .u16 (x.1.e : Int), .int .u16 (x.1.p : Int)] := fun w' h j v hv => by
          rw [Nat.zero_add, (hblk w' h).cell j]
          rcases j with _ | _ | _ | j
          · exact hv
          · exact hv
          · exact hv
          · simp at hv
        have LK : ∀ w', wz.grownBy w' (some b) → MapIs w' Tryz.prog 29 K.val wval b k (sG ((l.map sms).take k)) → Calls Tryz.prog 7 #[.map (some b), .agg #[.int .u32 ((sm x.1).a : Int), .int .u16 ((sm x.1).e : Int), .int .u16 ((sm x.1).p : Int)], .int .i64 x.2] w' fun e w'' => e = .returned (.tuple #[]) ∧ wz.grownBy w'' (some b) ∧ MapIs w'' Tryz.prog 29 K.val wval b (k + 1) (sG ((l.map sms).take (k + 1))) := fun w' h1 h2 => by
          have hlen := HL.out
          refine (sumsAdd_any b k _ (sm x.1) (sm_ok _) x.2 hox.2 (by omega) w' h2).mono ?_
          rintro _ wy ⟨rfl, hm, hg⟩
          refine ⟨rfl, h1.trans hg, ?_⟩
          have e := sG_step ((l.map sms).take k) (sms x)
          rw [sG_get] at hm
          rw [show (l.map sms).take (k + 1) = (l.map sms).take k ++ [sms x] by rw [← HX.out]; exact map_take_succ' l sms mk0 k hlt, ← e]
          exact hm
        refine region_lits1 (n := 7) 6 1 (by kernel_rfl) (fun c' w' => wz.grownBy w' (some b) ∧ MapIs w' Tryz.prog 29 K.val wval b (if c' then k + 1 else k) (sG ((l.map sms).take (if c' then k + 1 else k)))) (fun i => (#[.map (some b), .pointer (some ⟨g6, 0, none⟩), .agg #[.int .u32 (x.1.a : Int), .int .u16 (x.1.e : Int), .int .u16 (x.1.p : Int)], .agg #[.int .u32 ((sm x.1).a : Int), .int .u16 ((sm x.1).e : Int), .int .u16 ((sm x.1).p : Int)], .pointer (some ⟨g6, 3, none⟩), .int .i64 x.2, .tuple #[]] : Array Value).getD i undef) (by kernel_rfl) (by kernel_rfl) ⟨⟨rfl, rfl, rfl, Nat.le_refl _, fun _ _ _ => rfl⟩, HM1.out⟩ rfl ?_
        intro F hF
        simp only [fill, if_true, dstAt] at hF
        simp [Act.put] at hF
        subst hF
        refine ⟨?_, ?_⟩
        · intro i o ho c wx hcm S
          rcases i with _ | _ | _ | _ | _ | _ | _ | i
          all_goals (first | (simp at ho; done) | (obtain rfl := Option.some.inj ho))
          · exact yv_val rfl S (by go_simp)
          · exact yv_val rfl S (by go_simp)
          · exact yv_load rfl S _ _ rfl g6 0 rfl (LX1 _ S.1) Tryz.underlying29 rfl (by kernel_rfl)
          · exact yv_call rfl rfl Tryz.func8 (by kernel_rfl) rfl #[.agg #[.int .u32 (x.1.a : Int), .int .u16 (x.1.e : Int), .int .u16 (x.1.p : Int)]] (by go_simp) ((small_any x.1 hox.1 wx).mono (by rintro _ wy ⟨rfl, hb⟩; exact ⟨rfl, S.1.trans (grown_below hb), S.2.below hb⟩))
          · exact yv_val rfl S (by go_simp)
          · have d3 : wx.cell? ⟨g6, 3, none⟩ = some (.int .i64 x.2) := (hblk wx S.1).cell 3
            exact yv_val rfl S (by go_simp)
          · obtain rfl : c = false := hcm (by kernel_rfl)
            exact yv_call rfl rfl Tryz.func7 (by kernel_rfl) rfl #[.map (some b), .agg #[.int .u32 ((sm x.1).a : Int), .int .u16 ((sm x.1).e : Int), .int .u16 ((sm x.1).p : Int)], .int .i64 x.2] (by go_simp) (LK wx S.1 S.2)
        · intro wy S
          simp only [if_true] at S
          have Ry := hblk wy S.1
          have d0 : wy.cell? ⟨g6, 0, none⟩ = some (.int .u32 (x.1.a : Int)) := Ry.cell 0
          have d1 : wy.cell? ⟨g6, 1, none⟩ = some (.int .u16 (x.1.e : Int)) := Ry.cell 1
          have d2 : wy.cell? ⟨g6, 2, none⟩ = some (.int .u16 (x.1.p : Int)) := Ry.cell 2
          have d3 : wy.cell? ⟨g6, 3, none⟩ = some (.int .i64 x.2) := Ry.cell 3
          have HM2 := Lib.hid S.2
          have HBB2 := Lib.hid (below_grown HBB1.out HBW.out S.1)
          have ev : IntKind.i64.wrap ((k : Int) + 1) = ((k + 1 : Nat) : Int) := by have := HL.out; rw [IntKind.wrap_i64]; omega
          clear S Ry LX1 LK hblk Rg6 HM1 HBB1
          go_wp2_with fail
          refine (sumsAdd_none x.1 x.2 wy).mono ?_
          rintro _ w4 ⟨rfl, hb4⟩
          clear d0 d1 d2 d3
          go_wp2_with fail
          exact ⟨⟨k + 1, by omega, rfl, HM2.out.below hb4, below_then HBB2.out hb4⟩, by simp [intOf]; omega⟩
      · obtain rfl : k = l.length := by omega
        have hk0 : ¬ ((l.length : Int) < (l.length : Int)) := by omega
        have hM := HM.out
        rw [show (l.map sms).take l.length = l.map sms by rw [List.take_of_length_le (by simp)]] at hM
        have HM := Lib.hid hM
        clear hM HM3 HB3
        go_wp2_with fail
        refine (keys_any b l.length (sG (l.map sms)) wr (by have := HL.out; omega) (fun d u hd => by
          obtain ⟨y, hy, rfl⟩ := List.mem_map.1 ((sG_some _ _).1 ⟨u, hd⟩)
          obtain ⟨z, _, rfl⟩ := List.mem_map.1 hy
          exact sm_ok _) HM.out).mono ?_
        rintro _ w4 ⟨v, ps, rfl, hnd, hmem, hrise, hP, hb4⟩
        have HM4 := Lib.hid (HM.out.below hb4)
        have HB4 := Lib.hid (below_then HBB.out hb4)
        have HMEM : Hid (∀ d, d ∈ ps ↔ d ∈ (l.map sms).map (·.1)) := Lib.hid fun d => (hmem d).trans (sG_some _ d)
        have HMEM0 := Lib.hid hmem
        have HND := Lib.hid hnd
        have HRI := Lib.hid hrise
        have hpl : ps.length ≤ 1000 := by
          have h1 := nodup_len ps ((l.map sms).map (·.1)) hnd (fun d hd => (HMEM.out d).1 hd)
          have := HL.out
          simp at h1
          omega
        have HOKP : Hid (∀ d, d ∈ ps → K.ok d) := Lib.hid fun d hd => by
          obtain ⟨y, hy, rfl⟩ := List.mem_map.1 ((HMEM.out d).1 hd)
          obtain ⟨z, _, rfl⟩ := List.mem_map.1 hy
          exact sm_ok _
        obtain ⟨pp, pcap, rfl, hP⟩ := hP
        have HP := Lib.hid hP
        clear hb4 HM HBB hmem hnd hrise hP
        have hk2 : (0 : Int) ≤ (ps.length : Int) := by omega
        have HPL := Lib.hid hpl
        clear hpl hk0
        go_wp2_with fail
        go_loopw [48] (fun i wr => ∃ j : Nat, j ≤ ps.length ∧ i = .int .i64 j ∧ Below w4.heap.size w4 wr) (fun i _ => ps.length - (intOf i).toNat)
        case atStart => exact ⟨0, by omega, rfl, Below.refl _ _⟩
        case round =>
          obtain ⟨j, hj, rfl, BB⟩ := hrel
          have HBB := Lib.hid BB
          clear BB
          by_cases hjt : j < ps.length
          · have hj1 : (0 : Int) ≤ (j : Int) := by omega
            have hj2 : (j : Int) < (ps.length : Int) := by omega
            obtain ⟨gp, rfl, hpc⟩ : ∃ gp, pp = some ⟨gp, 0, none⟩ ∧ ∀ t u, (kcs ps)[t]? = some u → w4.cell? ⟨gp, t, none⟩ = some u := by
              rcases HP.out with h | h
              · exact absurd hjt (by rw [h]; simp)
              · exact h
            have HPC := Lib.hid hpc
            have cw := fun q hq => ((HBB.out.cell (block_lt_of_cell ((keys_cell hpc j hjt q hq).trans (List.getElem?_eq_getElem (by rw [kc_len]; exact hq))))).trans (keys_cell hpc j hjt q hq))
            have c0 := cw 0 (by omega)
            have c1 := cw 1 (by omega)
            have c2 := cw 2 (by omega)
            have hpm : ps.getD j kk0.1 ∈ ps := getD_mem hjt
            generalize hgx : ps.getD j kk0.1 = p at *
            have HPJ := Lib.hid hgx
            have HPM := Lib.hid hpm
            simp only [kc, List.getElem?_cons_zero, List.getElem?_cons_succ] at c0 c1 c2
            rw [Nat.add_zero] at c0
            clear hpc cw hgx hpm
            go_wp2_with fail
            obtain ⟨g9, hg9⟩ : ∃ g, g = wr.heap.size := ⟨_, rfl⟩
            have hBx := below_alloc (Below.refl _ wr) (.cells #[.int .u32 (p.a : Int), .int .u16 (p.e : Int), .int .u16 (p.p : Int)] 29)
            have R9 := Row.new wr #[.int .u32 (p.a : Int), .int .u16 (p.e : Int), .int .u16 (p.p : Int)] 29
            rw [← hg9] at R9 ⊢
            have HBB1 := Lib.hid (below_then HBB.out hBx)
            clear hBx hg9 HBB c0 c1 c2
            generalize wr.alloc (.cells #[.int .u32 (p.a : Int), .int .u16 (p.e : Int), .int .u16 (p.p : Int)] 29) = wz at *
            have HR9 := Lib.hid R9
            clear R9
            refine (zer.out _).mono ?_
            rintro _ w5 ⟨rfl, hb5⟩
            go_wp2_with (first | (refine ev_alloc (N := 10) rfl rfl 36 rfl _ zero128 ?_; intro g10 w6 hg10 RG B6) | (refine ev_store rfl 36 _ _ rfl g10 _ rfl rfl RG (info128 _) (by rw [vec_size]; exact (vec_size _ _).symm) (vec_one _ _) rfl ?_; intro w7 RZ S7))
            have hgz : wz.heap.size ≤ g10 := Nat.le_trans hb5.size hg10
            have HB7 := Lib.hid (S7.below (below_then hb5 B6) hgz)
            have rz : u128 (Wd.num 0 0) = u128 (ssum ((l.map sms).take 0) p) := rfl
            rw [rz] at RZ
            have HGZ := Lib.hid hgz
            have HRZ := Lib.hid RZ
            clear S7 RG rz hb5 B6 hg10 hgz RZ
            go_loopw [11, 56] (fun sv i wr => ∃ k : Nat, k ≤ l.length ∧ i = .int .i64 k ∧ sv = .bool (decide (p ∈ ((l.map sms).take k).map (·.1))) ∧ Row wr g10 (bv (u128 (ssum ((l.map sms).take k) p))) 36 ∧ Below wz.heap.size wz wr) (fun sv i _ => l.length - (intOf i).toNat)
            case atStart => exact ⟨0, by omega, rfl, by simp, HRZ.out, HB7.out⟩
            case round =>
              obtain ⟨k, hk, rfl, rfl, hR, BB⟩ := hrel
              have HBB := Lib.hid BB
              have HRR := Lib.hid hR
              clear BB hR
              by_cases hlt : k < l.length
              · have hk1 : (0 : Int) ≤ (k : Int) := by omega
                have hk2 : (k : Int) < (l.length : Int) := by omega
                obtain ⟨bl, off, rfl, hcells⟩ : ∃ bl off, a = some ⟨bl, off, none⟩ ∧ ∀ i, i < l.length → w.rangeAt bl (off + i * 4) (mc (l.getD i mk0)) := by
                  rcases HE.out with h | h
                  · exact absurd hlt (by rw [h]; simp)
                  · exact h
                have HCE := Lib.hid hcells
                have hx := hcells k hlt
                have hox := HOK.out _ (getD_mem (d := mk0) hlt)
                generalize hgx : l.getD k mk0 = x at *
                have RX : wr.rangeAt bl (off + k * 4) (mc x) := range_below (range_below (range_below hx HB4.out) HBB1.out) HBB.out
                have c0 : wr.cell? ⟨bl, off + k * 4, none⟩ = some (.int .u32 (x.1.a : Int)) := RX 0 _ rfl
                have c1 : wr.cell? ⟨bl, off + k * 4 + 1, none⟩ = some (.int .u16 (x.1.e : Int)) := RX 1 _ rfl
                have c2 : wr.cell? ⟨bl, off + k * 4 + 2, none⟩ = some (.int .u16 (x.1.p : Int)) := RX 2 _ rfl
                have c3 : wr.cell? ⟨bl, off + k * 4 + 3, none⟩ = some (.int .i64 x.2) := RX 3 _ rfl
                have HX := Lib.hid hgx
                clear hcells hx hgx RX
                go_wp2_with fail
                obtain ⟨g13, hg13⟩ : ∃ g, g = wr.heap.size := ⟨_, rfl⟩
                have hBx := below_alloc (Below.refl _ wr) (.cells #[.int .u32 (x.1.a : Int), .int .u16 (x.1.e : Int), .int .u16 (x.1.p : Int), .int .i64 x.2] 31)
                have Rg13 := Row.new wr #[.int .u32 (x.1.a : Int), .int .u16 (x.1.e : Int), .int .u16 (x.1.p : Int), .int .i64 x.2] 31
                rw [← hg13] at Rg13 ⊢
                have R9 := (HR9.out.below HBB.out).below hBx
                have R10 := HRR.out.below hBx
                have HBB3 := Lib.hid (below_then HBB.out hBx)
                have hgq : wz.heap.size ≤ g13 := by rw [hg13]; exact HBB.out.size
                have hne10 : g10 ≠ g13 := by have := HRR.out.lt; omega
                clear hBx hg13 HBB HRR c0 c1 c2 c3
                generalize wr.alloc (.cells #[.int .u32 (x.1.a : Int), .int .u16 (x.1.e : Int), .int .u16 (x.1.p : Int), .int .i64 x.2] 31) = wq at *
                have d0 : ∀ n : QW (fun w' => Below wq.heap.size wq w'), n.w.cell? ⟨g13, 0, none⟩ = some (.int .u32 (x.1.a : Int)) := fun n => (Rg13.below n.h).cell 0
                have d1 : ∀ n : QW (fun w' => Below wq.heap.size wq w'), n.w.cell? ⟨g13, 1, none⟩ = some (.int .u16 (x.1.e : Int)) := fun n => (Rg13.below n.h).cell 1
                have d2 : ∀ n : QW (fun w' => Below wq.heap.size wq w'), n.w.cell? ⟨g13, 2, none⟩ = some (.int .u16 (x.1.p : Int)) := fun n => (Rg13.below n.h).cell 2
                have f0 : ∀ n : QW (fun w' => Below wq.heap.size wq w'), n.w.cell? ⟨g9, 0, none⟩ = some (.int .u32 (p.a : Int)) := fun n => (R9.below n.h).cell 0
                have f1 : ∀ n : QW (fun w' => Below wq.heap.size wq w'), n.w.cell? ⟨g9, 1, none⟩ = some (.int .u16 (p.e : Int)) := fun n => (R9.below n.h).cell 1
                have f2 : ∀ n : QW (fun w' => Below wq.heap.size wq w'), n.w.cell? ⟨g9, 2, none⟩ = some (.int .u16 (p.p : Int)) := fun n => (R9.below n.h).cell 2
                have s1 : ∀ n : QW (fun w' => Below wq.heap.size wq w'), Calls Tryz.prog 8 #[.agg #[.int .u32 (x.1.a : Int), .int .u16 (x.1.e : Int), .int .u16 (x.1.p : Int)]] n.w fun e w'' => e = .returned (.agg #[.int .u32 ((sm x.1).a : Int), .int .u16 ((sm x.1).e : Int), .int .u16 ((sm x.1).p : Int)]) ∧ ∃ m : QW (fun w' => Below wq.heap.size wq w'), w'' = m.w := fun n => Calls.quietS ((small_any x.1 hox.1 n.w).mono (by rintro _ wy ⟨rfl, hb⟩; exact ⟨rfl, below_then n.h hb⟩))
                have HS1 := Lib.hid s1
                clear s1
                have ev : IntKind.i64.wrap ((k : Int) + 1) = ((k + 1 : Nat) : Int) := by have := HL.out; rw [IntKind.wrap_i64]; omega
                have HTS : Hid ((l.map sms).take (k + 1) = (l.map sms).take k ++ [sms x]) := Lib.hid (by rw [map_take_succ' l sms mk0 k hlt, HX.out])
                have hR10 : Hid (Row wq g10 (bv (u128 (ssum ((l.map sms).take k) p))) 36) := Lib.hid R10
                have hR13 := Lib.hid Rg13
                clear R10 Rg13
                by_cases h1 : sm x.1 = p
                · have q1 : ∀ (r s : Result Next), (if ((sm x.1).a : Int) = (p.a : Int) then if ((sm x.1).e : Int) = (p.e : Int) then if ((sm x.1).p : Int) = (p.p : Int) then r else s else s else s) = r := fun r s => by rw [key_if, if_pos h1]
                  have hsum : Hid (ssum ((l.map sms).take (k + 1)) p = ssum ((l.map sms).take k) p + x.2) := Lib.hid (by rw [HTS.out, ssum_add, if_pos (show (sms x).1 = p from h1)]; rfl)
                  have hsome : Hid (decide (p ∈ ((l.map sms).take (k + 1)).map (·.1)) = true) := Lib.hid (decide_eq_true (by rw [HTS.out, List.map_append]; exact List.mem_append_right _ (by simp [← h1, sms])))
                  clear h1
                  refine region_quietS (fun w' => Below wq.heap.size wq w') (by kernel_rfl) (by kernel_rfl) (below_dr (Below.refl _ _)) (fun hne => ?_)
                  repeat (go_big_quiet_step (first | (with_reducible exact HS1.out _)))
                  refine wpQuiet_nil ?_
                  intro _ hw'
                  obtain ⟨⟨wy, S⟩, rfl⟩ := hw'
                  clear q1 d0 d1 d2 f0 f1 f2
                  have R10 := hR10.out.below S
                  have R13 := hR13.out.below S
                  have HBB4 := below_then HBB3.out S
                  clear S hR10 hR13 HBB3 HS1
                  obtain ⟨z, hz⟩ : ∃ z, z = x.2 := ⟨_, rfl⟩
                  have hIz : Wd.I64 z := by rw [hz]; exact hox.2
                  have CB : Hid (∀ w : World, Calls Tryz.prog 10 #[.int .i64 (z / 9223372036854775808), .int .u64 (IntKind.u64.wrap z)] w fun e w' => e = .returned (.agg (bv (u128 z))) ∧ Below w.heap.size w w') := Lib.hid fun w => by
                    have e1 := Wd.of_hi z hIz
                    have k2 := refBits_any (Wd.hi z) (Wd.lo z) (Wd.hi_bd z) (Wd.lo_bd z) w
                    have e3 : u128 (Wd.num (Wd.hi z) (Wd.lo z)) = u128 z := by
                      unfold Wd.I64 at hIz; unfold u128 Wd.num Wd.hi Wd.lo wrap64; omega
                    rw [e3] at k2
                    rwa [e1, Wd.of_lo]
                  have CA : Hid (∀ w : World, Calls Tryz.prog 11 #[.agg (bv (u128 (ssum ((l.map sms).take k) p))), .agg (bv (u128 z))] w fun e w' => e = .returned (.agg (bv (u128 (ssum ((l.map sms).take k) p + z)))) ∧ Below w.heap.size w w') := Lib.hid fun w => by
                    have k2 := refAdd_any (u128 (ssum ((l.map sms).take k) p)) (u128 z) w
                    rwa [u128_add] at k2
                  rw [← hz] at R13 hsum
                  have HSU := hsum
                  clear hsum hz hIz
                  have hsz := HSU.out
                  clear HSU
                  generalize ssum ((l.map sms).take k) p = s0 at *
                  rw [← hsz] at CA
                  obtain ⟨m2, hm2⟩ : ∃ m2, m2 = u128 (ssum ((l.map sms).take (k + 1)) p) := ⟨_, rfl⟩
                  rw [← hm2] at CA
                  have HM2E := Lib.hid hm2
                  clear hsz hm2
                  generalize u128 s0 = m0 at *
                  generalize u128 z = m1 at *
                  go_wp2_with fail
                  refine region_lits1 (n := 10) 9 3 (by kernel_rfl) (fun c' w' => Below wz.heap.size wz w' ∧ Row w' g13 #[.int .u32 (x.1.a : Int), .int .u16 (x.1.e : Int), .int .u16 (x.1.p : Int), .int .i64 z] 31 ∧ Row w' g10 (bv (if c' then m2 else m0)) 36) (fun i => (#[.agg (bv m0), .pointer (some ⟨g13, 3, none⟩), .int .i64 z, .int .i64 (z / 9223372036854775808), .pointer (some ⟨g13, 3, none⟩), .int .i64 z, .int .u64 (IntKind.u64.wrap z), .agg (bv m1), .agg (bv m2), undef] : Array Value).getD i undef) (by kernel_rfl) (by kernel_rfl) ⟨below_dr HBB4, R13, R10⟩ rfl ?_
                  intro F hF
                  simp only [fill, if_true, dstAt] at hF
                  simp [Act.put] at hF
                  subst hF
                  refine ⟨?_, ?_⟩
                  · intro i o ho c wx hcm S
                    rcases i with _ | _ | _ | _ | _ | _ | _ | _ | _ | _ | i
                    all_goals (first | (simp at ho; done) | (obtain rfl := Option.some.inj ho))
                    · obtain rfl : c = false := hcm (by kernel_rfl)
                      exact yv_load_row rfl S _ _ rfl g10 rfl S.2.2 Tryz.underlying36 rfl (info128 _)
                    · exact yv_val rfl S (by go_simp)
                    · have d3 : wx.cell? ⟨g13, 3, none⟩ = some (.int .i64 z) := S.2.1.cell 3
                      exact yv_val rfl S (by go_simp)
                    · exact yv_val rfl S (by go_simp)
                    · exact yv_val rfl S (by go_simp)
                    · have d3 : wx.cell? ⟨g13, 3, none⟩ = some (.int .i64 z) := S.2.1.cell 3
                      exact yv_val rfl S (by go_simp)
                    · exact yv_val rfl S (by go_simp)
                    · exact yv_call rfl rfl Tryz.func10 (by kernel_rfl) rfl #[.int .i64 (z / 9223372036854775808), .int .u64 (IntKind.u64.wrap z)] (by go_simp) ((CB.out wx).mono (by rintro _ wy ⟨rfl, hb⟩; exact ⟨rfl, below_then S.1 hb, S.2.1.below hb, S.2.2.below hb⟩))
                    · exact yv_call rfl rfl Tryz.func11 (by kernel_rfl) rfl #[.agg (bv m0), .agg (bv m1)] (by go_simp) ((CA.out wx).mono (by rintro _ wy ⟨rfl, hb⟩; exact ⟨rfl, below_then S.1 hb, S.2.1.below hb, S.2.2.below hb⟩))
                    · obtain rfl : c = false := hcm (by kernel_rfl)
                      exact yv_store rfl 36 _ _ rfl g10 (bv m2) rfl rfl S.2.2 (info128 _) (by unfold bv; rw [vec_size]; exact (vec_size _ _).symm) (vec_one _ _) (fun w1 RZ S1 => ⟨S1.below S.1 HGZ.out, S.2.1.stored S1 (Ne.symm hne10), RZ⟩)
                  · intro wy S
                    simp only [if_true] at S
                    have HSS := Lib.hid S
                    clear S R10 R13 HBB4 CA CB
                    go_wp2_with fail
                    exact ⟨⟨k + 1, by omega, rfl, by rw [hsome.out], by rw [← HM2E.out]; exact HSS.out.2.2, HSS.out.1⟩, by simp [intOf]; omega⟩
                · as_aux_lemma =>
                    have q1 : ∀ (r s : Result Next), (if ((sm x.1).a : Int) = (p.a : Int) then if ((sm x.1).e : Int) = (p.e : Int) then if ((sm x.1).p : Int) = (p.p : Int) then r else s else s else s) = s := fun r s => by rw [key_if, if_neg h1]
                    have hsum : Hid (ssum ((l.map sms).take (k + 1)) p = ssum ((l.map sms).take k) p) := Lib.hid (by rw [HTS.out, ssum_add, if_neg (show ¬ (sms x).1 = p from h1), Int.add_zero])
                    have hsome : Hid (decide (p ∈ ((l.map sms).take (k + 1)).map (·.1)) = decide (p ∈ ((l.map sms).take k).map (·.1))) := Lib.hid (by
                      rw [decide_eq_decide, HTS.out, List.map_append, List.mem_append]
                      refine ⟨fun h => h.resolve_right (fun h => ?_), Or.inl⟩
                      simp [sms] at h
                      exact h1 h.symm)
                    clear h1
                    refine region_quietS (fun w' => Below wq.heap.size wq w') (by kernel_rfl) (by kernel_rfl) (below_dr (Below.refl _ _)) (fun hne => ?_)
                    repeat (go_big_quiet_step (first | (with_reducible exact HS1.out _)))
                    refine wpQuiet_nil ?_
                    intro _ hw'
                    obtain ⟨⟨wy, S⟩, rfl⟩ := hw'
                    clear q1 d0 d1 d2 f0 f1 f2
                    have HSS := Lib.hid S
                    clear S
                    go_wp2_with fail
                    exact ⟨⟨k + 1, by omega, rfl, by rw [hsome.out], by rw [hsum.out]; exact hR10.out.below HSS.out, below_then HBB3.out HSS.out⟩, by simp [intOf]; omega⟩
              · obtain rfl : k = l.length := by omega
                have hk0 : ¬ ((l.length : Int) < (l.length : Int)) := by omega
                have hR := HRR.out
                rw [show (l.map sms).take l.length = l.map sms by rw [List.take_of_length_le (by simp)]] at hR ⊢
                rw [decide_eq_true ((HMEM.out p).1 HPM.out)]
                obtain ⟨s, hs⟩ : ∃ s, s = ssum (l.map sms) p := ⟨_, rfl⟩
                rw [← hs] at hR
                have NU : Hid (∀ w : World, Calls Tryz.prog 12 #[.agg (bv (u128 s))] w fun e w' => e = .returned (.tuple #[.int .i64 (Wd.hi s), .int .u64 (Wd.lo s)]) ∧ Below w.heap.size w w') := Lib.hid fun w => by
                  have k2 := refNumber_any (u128 s) (u128_lt s) w
                  rwa [show Wd.hi ((u128 s : Nat) : Int) = Wd.hi s by unfold u128 Wd.hi wrap64; omega, show Wd.lo ((u128 s : Nat) : Int) = Wd.lo s by unfold u128 Wd.lo; omega] at k2
                have HLK : ∀ W : World, MapIs W Tryz.prog 29 K.val wval b l.length (sG (l.map sms)) → (Instr.lookup 25 (.map (some b)) (.agg #[.int .u32 (p.a : Int), .int .u16 (p.e : Int), .int .u16 (p.p : Int)]) false).run Tryz.prog W = .ok (.agg #[.int .i64 (Wd.hi s), .int .u64 (Wd.lo s)]) W := fun W h => by
                  obtain ⟨kl, hkey⟩ := key_of p (HOKP.out p HPM.out)
                  have h := MapIs.look (enc := K.val) (vl := wval) (e := 44) (t := 25) h (Keyed.of_law lawKey) Tryz.underlying25 val_inj (zero_wide W) p hkey
                  have hval : getV wval (wval 0) (sG (l.map sms) p) = wval s := by
                    rw [hs, ← sG_get]
                    cases sG (l.map sms) p <;> rfl
                  rw [hval] at h
                  exact h
                generalize u128 s = m at *
                generalize Wd.hi s = hh at *
                generalize Wd.lo s = ll at *
                clear hs
                have HLKH := Lib.hid HLK
                clear HLK
                go_wp2_with (first | (refine ev_load (N := 76) rfl rfl 36 _ rfl g10 rfl hR _ Tryz.underlying36 rfl (info128 _) ?_))
                refine (NU.out _).mono ?_
                rintro _ w8 ⟨rfl, hb8⟩
                have HB8 := Lib.hid (below_then (below_then HBB1.out HBB.out) hb8)
                have R9 := (HR9.out.below HBB.out).below hb8
                have HM8 := Lib.hid (HM4.out.below HB8.out)
                clear hb8 NU hR HRR HBB
                go_wp2_with fail
                have f0 : ∀ n : QW (fun w' => Below w8.heap.size w8 w'), n.w.cell? ⟨g9, 0, none⟩ = some (.int .u32 (p.a : Int)) := fun n => (R9.below n.h).cell 0
                have f1 : ∀ n : QW (fun w' => Below w8.heap.size w8 w'), n.w.cell? ⟨g9, 1, none⟩ = some (.int .u16 (p.e : Int)) := fun n => (R9.below n.h).cell 1
                have f2 : ∀ n : QW (fun w' => Below w8.heap.size w8 w'), n.w.cell? ⟨g9, 2, none⟩ = some (.int .u16 (p.p : Int)) := fun n => (R9.below n.h).cell 2
                have hlk : ∀ n : QW (fun w' => Below w8.heap.size w8 w'), (Instr.lookup 25 (.map (some b)) (.agg #[.int .u32 (p.a : Int), .int .u16 (p.e : Int), .int .u16 (p.p : Int)]) false).run Tryz.prog n.w = .ok (.agg #[.int .i64 hh, .int .u64 ll]) n.w := fun n => HLKH.out n.w (HM8.out.below n.h)
                have evj : IntKind.i64.wrap ((j : Int) + 1) = ((j + 1 : Nat) : Int) := by have := HPL.out; rw [IntKind.wrap_i64]; omega
                have hfd0 : ∀ W : World, (Instr.field 44 (.agg #[.int .i64 hh, .int .u64 ll]) 0).run Tryz.prog W = .ok (.int .i64 hh) W := fun _ => by kernel_rfl
                have hfd1 : ∀ W : World, (Instr.field 44 (.agg #[.int .i64 hh, .int .u64 ll]) 1).run Tryz.prog W = .ok (.int .u64 ll) W := fun _ => by kernel_rfl
                by_cases hj0 : j = 0
                · as_aux_lemma =>
                    have hj0i : ¬ (0 : Int) < (j : Int) := by omega
                    have hj00 : ¬ 0 < j := by omega
                    clear hj0 hj1 hj2
                    refine region_quietS (fun w' => Below w8.heap.size w8 w') (by kernel_rfl) (by kernel_rfl) (below_dr (Below.refl _ _)) (fun hne => ?_)
                    repeat (go_big_quiet_step (fail))
                    refine wpQuiet_nil ?_
                    intro _ hw'
                    obtain ⟨⟨wy, S⟩, rfl⟩ := hw'
                    clear f0 f1 f2 hlk
                    go_wp2_with fail
                    exact ⟨⟨j + 1, by omega, by push_cast; rfl, below_then HB8.out S⟩, by simp [intOf]; omega⟩
                · as_aux_lemma =>
                    obtain ⟨jj, rfl⟩ : ∃ jj, j = jj + 1 := ⟨j - 1, by omega⟩
                    have hjl : jj < ps.length := by omega
                    have cw : ∀ n : QW (fun w' => Below w8.heap.size w8 w'), ∀ q, q < 3 → n.w.cell? ⟨gp, jj * 3 + q, none⟩ = (kc (ps.getD jj kk0.1))[q]? := fun n q hq => (((below_then HB8.out n.h).cell (block_lt_of_cell ((keys_cell HPC.out jj hjl q hq).trans (List.getElem?_eq_getElem (by rw [kc_len]; exact hq))))).trans (keys_cell HPC.out jj hjl q hq))
                    have hqm : ps.getD jj kk0.1 ∈ ps := getD_mem hjl
                    have hokq := HOKP.out _ hqm
                    have hokp := HOKP.out _ HPM.out
                    have hrise : (ps.getD jj kk0.1).num < p.num := by
                      have h1 := HRI.out jj (jj + 1) (by omega) hjt
                      rw [HPJ.out, kcmp_lt] at h1
                      have h2 : ps.getD jj kk0.1 ≠ p := fun e => by
                        have h3 := (List.getElem_inj (i := jj) (j := jj + 1) (h₀ := hjl) (h₁ := hjt) HND.out).1 (by
                          have e1 := HPJ.out
                          rw [List.getD_eq_getElem?_getD, List.getElem?_eq_getElem hjt] at e1
                          rw [List.getD_eq_getElem?_getD, List.getElem?_eq_getElem hjl] at e
                          exact e.trans e1.symm)
                        omega
                      have h3 : (ps.getD jj kk0.1).num ≠ p.num := fun e => h2 (num_inj hokq hokp e)
                      omega
                    generalize ps.getD jj kk0.1 = q at *
                    have g0 : ∀ n : QW (fun w' => Below w8.heap.size w8 w'), n.w.cell? ⟨gp, jj * 3, none⟩ = some (.int .u32 (q.a : Int)) := fun n => cw n 0 (by omega)
                    have g1 : ∀ n : QW (fun w' => Below w8.heap.size w8 w'), n.w.cell? ⟨gp, jj * 3 + 1, none⟩ = some (.int .u16 (q.e : Int)) := fun n => cw n 1 (by omega)
                    have g2 : ∀ n : QW (fun w' => Below w8.heap.size w8 w'), n.w.cell? ⟨gp, jj * 3 + 2, none⟩ = some (.int .u16 (q.p : Int)) := fun n => cw n 2 (by omega)
                    have hi1 : (0 : Int) ≤ (jj : Int) := by omega
                    have hi2 : (jj : Int) < (ps.length : Int) := by omega
                    have hi3 : (0 : Int) < ((jj + 1 : Nat) : Int) := by omega
                    have hi4 : 0 < jj + 1 := by omega
                    have hi5 : (0 : Int) < (jj : Int) + 1 := by omega
                    have ei : IntKind.i64.wrap (jj : Int) = (jj : Int) := by have := HPL.out; rw [IntKind.wrap_i64]; omega
                    have ei3 : IntKind.i64.wrap ((jj : Int) + 1 + 1) = ((jj + 1 + 1 : Nat) : Int) := by have := HPL.out; rw [IntKind.wrap_i64]; omega
                    have ei2 : IntKind.i64.wrap (((jj + 1 : Nat) : Int) - 1) = (jj : Int) := by have := HPL.out; rw [IntKind.wrap_i64]; omega
                    have sl1 : ∀ n : QW (fun w' => Below w8.heap.size w8 w'), Calls Tryz.prog 13 #[.agg #[.int .u32 (q.a : Int), .int .u16 (q.e : Int), .int .u16 (q.p : Int)], .agg #[.int .u32 (p.a : Int), .int .u16 (p.e : Int), .int .u16 (p.p : Int)]] n.w fun e w'' => e = .returned (.bool true) ∧ ∃ m : QW (fun w' => Below w8.heap.size w8 w'), w'' = m.w := fun n => Calls.quietS ((less_any q p hokq hokp n.w).mono (by rintro _ wy ⟨rfl, hb⟩; exact ⟨by rw [decide_eq_true hrise], below_then n.h hb⟩))
                    have Hsl1 := Lib.hid sl1
                    clear sl1 hrise cw hqm hj1 hj2 hj0
                    refine region_quietS (fun w' => Below w8.heap.size w8 w') (by kernel_rfl) (by kernel_rfl) (below_dr (Below.refl _ _)) (fun hne => ?_)
                    repeat (go_big_quiet_step (first | (with_reducible exact Hsl1.out _)))
                    refine wpQuiet_nil ?_
                    intro _ hw'
                    obtain ⟨⟨wy, S⟩, rfl⟩ := hw'
                    clear f0 f1 f2 g0 g1 g2 hlk
                    go_wp2_with fail
                    exact ⟨⟨jj + 1 + 1, by omega, by push_cast; rfl, below_then HB8.out S⟩, by simp [intOf]; omega⟩
          · obtain rfl : j = ps.length := by omega
            have hk0 : ¬ ((ps.length : Int) < (ps.length : Int)) := by omega
            have hk3 : (0 : Int) ≤ (l.length : Int) := by omega
            have HB5 := Lib.hid HBB.out
            clear HBB
            go_wp2_with fail
            go_loopw [115] (fun i wr => ∃ k : Nat, k ≤ l.length ∧ i = .int .i64 k ∧ Below w4.heap.size w4 wr) (fun i _ => l.length - (intOf i).toNat)
            case atStart => exact ⟨0, by omega, rfl, HB5.out⟩
            case round =>
              obtain ⟨k, hk, rfl, BB⟩ := hrel
              have HBB := Lib.hid BB
              clear BB hk0
              by_cases hlt : k < l.length
              · as_aux_lemma =>
                  have hk1 : (0 : Int) ≤ (k : Int) := by omega
                  have hk2 : (k : Int) < (l.length : Int) := by omega
                  obtain ⟨bl, off, rfl, hcells⟩ : ∃ bl off, a = some ⟨bl, off, none⟩ ∧ ∀ i, i < l.length → w.rangeAt bl (off + i * 4) (mc (l.getD i mk0)) := by
                    rcases HE.out with h | h
                    · exact absurd hlt (by rw [h]; simp)
                    · exact h
                  have HCE := Lib.hid hcells
                  have hx := hcells k hlt
                  have hox := HOK.out _ (getD_mem (d := mk0) hlt)
                  generalize hgx : l.getD k mk0 = x at *
                  have RX : wr.rangeAt bl (off + k * 4) (mc x) := range_below (range_below hx HB4.out) HBB.out
                  have c0 : wr.cell? ⟨bl, off + k * 4, none⟩ = some (.int .u32 (x.1.a : Int)) := RX 0 _ rfl
                  have c1 : wr.cell? ⟨bl, off + k * 4 + 1, none⟩ = some (.int .u16 (x.1.e : Int)) := RX 1 _ rfl
                  have c2 : wr.cell? ⟨bl, off + k * 4 + 2, none⟩ = some (.int .u16 (x.1.p : Int)) := RX 2 _ rfl
                  have c3 : wr.cell? ⟨bl, off + k * 4 + 3, none⟩ = some (.int .i64 x.2) := RX 3 _ rfl
                  have HX := Lib.hid hgx
                  clear hcells hx hgx RX
                  go_wp2_with fail
                  obtain ⟨g17, hg17⟩ : ∃ g, g = wr.heap.size := ⟨_, rfl⟩
                  have hBx := below_alloc (Below.refl _ wr) (.cells #[.int .u32 (x.1.a : Int), .int .u16 (x.1.e : Int), .int .u16 (x.1.p : Int), .int .i64 x.2] 31)
                  have Rg17 := Row.new wr #[.int .u32 (x.1.a : Int), .int .u16 (x.1.e : Int), .int .u16 (x.1.p : Int), .int .i64 x.2] 31
                  rw [← hg17] at Rg17 ⊢
                  have HBB3 := Lib.hid (below_then HBB.out hBx)
                  clear hBx hg17 HBB c0 c1 c2 c3
                  generalize wr.alloc (.cells #[.int .u32 (x.1.a : Int), .int .u16 (x.1.e : Int), .int .u16 (x.1.p : Int), .int .i64 x.2] 31) = wq at *
                  have d0 : wq.cell? ⟨g17, 0, none⟩ = some (.int .u32 (x.1.a : Int)) := Rg17.cell 0
                  have d1 : wq.cell? ⟨g17, 1, none⟩ = some (.int .u16 (x.1.e : Int)) := Rg17.cell 1
                  have d2 : wq.cell? ⟨g17, 2, none⟩ = some (.int .u16 (x.1.p : Int)) := Rg17.cell 2
                  have ev : IntKind.i64.wrap ((k : Int) + 1) = ((k + 1 : Nat) : Int) := by have := HL.out; rw [IntKind.wrap_i64]; omega
                  clear Rg17
                  go_wp2_with fail
                  refine (small_any x.1 hox.1 _).mono ?_
                  rintro _ w5 ⟨rfl, hb5⟩
                  have HB6 := Lib.hid (below_then HBB3.out hb5)
                  clear d0 d1 d2 hb5
                  have hin : sm x.1 ∈ ps := (HMEM.out _).2 (by
                    rw [List.map_map, ← HX.out]
                    exact List.mem_map.2 ⟨_, getD_mem (d := mk0) hlt, rfl⟩)
                  unfold K.val
                  go_wp2_with fail
                  refine (containsK_any _ ps (sm x.1) w5 (KeysAt.below ⟨pp, pcap, rfl, HP.out⟩ HB6.out) HPL.out).mono ?_
                  rintro _ w6 ⟨rfl, hb6⟩
                  rw [decide_eq_true hin]
                  have HB7 := Lib.hid (below_then HB6.out hb6)
                  clear hb6 hin
                  go_wp2_with fail
                  exact ⟨⟨k + 1, by omega, rfl, HB7.out⟩, by simp [intOf]; omega⟩
              · as_aux_lemma =>
                  obtain rfl : k = l.length := by omega
                  have hk0 : ¬ ((l.length : Int) < (l.length : Int)) := by omega
                  obtain ⟨es, clock, hes, hsz⟩ := (HM4.out.below HBB.out).count val_inj ps HND.out (fun c => HMEM0.out c)
                  have hln : ∀ ty, (Builtin.len_ #[25] ty #[.map (some b)]).run Tryz.prog wr = .ok (goInt ps.length) wr := fun ty => by rw [← hsz]; exact run_len_map _ _ ty b es clock (by kernel_rfl) hes
                  have HSZ := Lib.hid hsz
                  have hszi : ((es.size : Nat) : Int) = (ps.length : Int) := by rw [hsz]
                  clear HSZ
                  go_wp2_with fail
                  refine (keys_none _).mono ?_
                  rintro _ w9 ⟨rfl, hb9⟩
                  have HB9 := Lib.hid (below_then (below_then HB4.out HBB.out) hb9)
                  clear hb9
                  go_wp2_with fail
                  go_ret
                  exact ⟨rfl, HB9.out⟩
end Go.Proofs.YtahagfdjpldblaaGreatDoor
