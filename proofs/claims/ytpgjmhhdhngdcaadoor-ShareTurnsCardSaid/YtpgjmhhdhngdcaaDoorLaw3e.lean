/-
  The machine's side of the law ShareTurns: it answers true.
-/
import Derived.Test.YtpgjmhhdhngdcaaDoorShareL
import Derived.Deep.QuietTactic
import Derived.BigQuiet
namespace Go.Proofs.YtpgjmhhdhngdcaaDoor
open Go.RowKit
set_option linter.unusedVariables false
set_option linter.unusedSimpArgs false

def Apart (v v2 : Value) : Prop := ∀ g, v.ownBlock = some g → v2.ownBlock ≠ some g
theorem Apart.symm {v v2 : Value} (h : Apart v v2) : Apart v2 v := fun g h1 h2 => h g h2 h1
theorem own_lt {w : World} {B : Nat} {e : TypeId} {v : Value} {n g : Nat} {xs : List Value} (h : w.ownsRow B e 1 v n xs) (hg : v.ownBlock = some g) : g < w.heap.size := by
  rcases h.2 with ⟨rfl, _⟩ | ⟨g', cap, cur, rfl, _, hh, _⟩
  · simp [Value.ownBlock] at hg
  · simp [Value.ownBlock] at hg
    subst hg
    by_cases c : g' < w.heap.size
    · exact c
    · rw [Array.getElem?_eq_none (by omega)] at hh; cases hh
theorem own_other {w w' : World} {B : Nat} {e : TypeId} {v v2 : Value} {n : Nat} {xs : List Value} (h : w.ownsRow B e 1 v2 n xs) (hg : w.grownBy w' v.ownBlock) (ha : Apart v2 v) : w'.ownsRow B e 1 v2 n xs := by
  refine ⟨h.1, ?_⟩
  have hlt := fun g => own_lt (g := g) h
  rcases h.2 with h2 | ⟨g, cap, cur, rfl, h3, hh, h4⟩
  · exact .inl h2
  · refine .inr ⟨g, cap, cur, rfl, h3, ?_, h4⟩
    rw [hg.block g (hlt g rfl) (fun h => ha g rfl h.symm)]
    exact hh
section
variable {w W : World}
/-- append to one of two slices of their own -/
theorem list_append2 {ops : Array Oper} {rest : List Oper} {o : Oper} {a : Act} {Q : Exit → Act → World → Prop} (hgd : o.guard = none) (s x : Operand)
    (ho : o.op = .call { callee := .builtin .append, args := #[s, x], argTypes := #[33, 33] })
    (hB : Below w.heap.size w W) (v : Value) (n : Nat) (xs : List Int) (hs : a.eval s = v) (hown : W.ownsRow w.heap.size 2 1 v n (iv xs))
    (v2 : Value) (n2 : Nat) (xs2 : List Int) (hown2 : W.ownsRow w.heap.size 2 1 v2 n2 (iv xs2)) (hap : Apart v2 v)
    (b off m c : Nat) (zs : List Int) (hx : a.eval x = .slice (some ⟨b, off, none⟩) m c) (hl : zs.length = m) (hz : Nums W b off zs) (hn : n + m ≤ 1000)
    (h : ∀ v' w', w'.ownsRow w.heap.size 2 1 v' (n + m) (iv (xs ++ zs)) → w'.ownsRow w.heap.size 2 1 v2 n2 (iv xs2) → Apart v2 v' → Below w.heap.size w w' → wpList Tryd.prog ops Q rest (a.put o.dst v') w') :
    wpList Tryd.prog ops Q (o :: rest) a W := by
  obtain ⟨i, hi, h1, h2, h3⟩ : ∃ i, Tryd.prog.info? 2 = some i ∧ i.zero = some (.int .i64 0) ∧ i.size = 1 ∧ i.bytes = 8 := info_i64
  have hadd : ∀ j, (⟨b, off, none⟩ : Addr).add j = ⟨b, off + j, none⟩ := fun j => by simp [Addr.add]
  refine wpList_append_own_at W hgd s x 33 ho w.heap.size 2 i (.int .i64 0) 1 8 Tryd.underlying33 hi h1 h2 h3 rfl (by omega) v n (iv xs) hs hown ⟨b, off, none⟩ m c (iv zs) hx (by simp [iv, hl]) (fun j u hj => by rw [hadd]; exact iv_cell hz j u hj) (iv_one zs) (by unfold maxLen; omega) (by omega) hB.size ?_
  intro v' w' k2 k3 k4 k5
  refine h v' w' (by unfold iv at k2 ⊢; rwa [List.map_append]) (own_other hown2 k3 hap) ?_ (hB.grown k3 hB.size ?_)
  · intro g h1 h2
    rcases k5 with e | e
    · rw [e] at h2; exact hap g h1 h2
    · rw [e] at h2
      have := own_lt hown2 h1
      injection h2 with h2
      omega
  · intro k hk
    rcases hown.2 with ⟨rfl, _⟩ | ⟨g, cap, cur, rfl, hg, _⟩
    · simp [Value.ownBlock] at hk
    · simp [Value.ownBlock] at hk
      omega
end
def wT (us : List Nat) : List Nat := us.map fun u => 1 + u % 1000
theorem wT_len (us : List Nat) : (wT us).length = us.length := by simp [wT]
theorem wT_getD (us : List Nat) (i : Nat) (hi : i < us.length) : (wT us).getD i 0 = 1 + us.getD i 0 % 1000 := by
  unfold wT
  rw [List.getD_eq_getElem?_getD, List.getElem?_map, List.getD_eq_getElem?_getD, List.getElem?_eq_getElem hi]
  rfl
theorem mul_getD (c : Nat) (l : List Nat) (i : Nat) : (l.map (c * ·)).getD i 0 = c * l.getD i 0 := by
  rw [List.getD_eq_getElem?_getD, List.getElem?_map, List.getD_eq_getElem?_getD]
  cases l[i]? <;> simp
theorem wrap_mul (y c : Int) (h1 : 1 ≤ y ∧ y ≤ 1000) (h2 : 1 ≤ c ∧ c ≤ 200) : IntKind.i64.wrap (y * c) = y * c ∧ 1 ≤ y * c ∧ y * c ≤ 200000 := by
  have a1 : y * c ≤ 1000 * 200 := Int.mul_le_mul h1.2 h2.2 (by omega) (by omega)
  have a2 : 1 * 1 ≤ y * c := Int.mul_le_mul h1.1 h2.1 (by omega) (by omega)
  rw [IntKind.wrap_i64]
  omega

set_option maxRecDepth 100000 in
set_option maxHeartbeats 8000000 in
theorem shareTurns_any (a : Int) (p : Option Addr) (n cap0 : Nat) (us : List Nat) (bb : Nat) (w : World) (hG : Glb w) (hI : Wd.I64 a) (ha : a ≠ -9223372036854775808) (hn : IsU32 w p n us) (h1 : 1 ≤ n) (h8 : n ≤ 8) (hbb : bb ≤ 255) :
    Calls Tryd.prog 11 #[.int .i64 a, .slice p n cap0, .int .u8 (bb : Int)] w fun e w' => e = .returned (.bool true) ∧ Below w.heap.size w w' := by
  obtain ⟨hl, hu, hn⟩ := hn
  rcases hn with h0 | ⟨b, off, rfl, hn⟩
  · omega
  have HN := Lib.hid hn
  have HU := Lib.hid hu
  clear hn hu
  have hq1 : ((n : Int) == 0) = false := by simp; omega
  have hq2 : decide ((8 : Int) < (n : Int)) = false := by simp; omega
  have hq3 : (a == -9223372036854775808) = false := by rw [beq_eq_false_iff_ne]; exact ha
  have hnI : Wd.I64 (-a) := by unfold Wd.I64 at *; omega
  have ena : IntKind.i64.wrap (-a) = -a := by unfold Wd.I64 at hnI; rw [IntKind.wrap_i64]; omega
  obtain ⟨c, hc⟩ : ∃ c : Nat, c = 1 + bb % 200 := ⟨_, rfl⟩
  have hc1 : 0 < c := by omega
  have hc2 : c ≤ 200 := by omega
  have e2 : IntKind.i64.wrap (1 + (bb : Int) % 200) = (c : Int) := by rw [IntKind.wrap_i64]; omega
  have hwl : (wT us).length = n := by rw [wT_len, hl]
  have WB := Lib.hid (show ∀ i, i < n → 1 ≤ (wT us).getD i 0 ∧ (wT us).getD i 0 ≤ 1000 from fun i hi => by rw [wT_getD us i (by omega)]; omega)
  have hT : 0 < (wT us).sum := by
    have h0 := WB.out 0 (by omega)
    have := Sh.getD_le_sum (wT us) 0
    omega
  have WC := Lib.hid (show ∀ i, i < n → 1 ≤ ((wT us).map (c * ·)).getD i 0 ∧ ((wT us).map (c * ·)).getD i 0 ≤ 1000000 from fun i hi => by
    rw [mul_getD]
    have h := WB.out i hi
    have m1 := Nat.mul_le_mul (show c ≤ 200 by omega) h.2
    have m2 := Nat.mul_le_mul (show 1 ≤ c by omega) h.1
    omega)
  have I1 : Hid (∀ z ∈ ni (wT us), Wd.I64 z) := Lib.hid (ni_I64 _ fun i hi => by have := WB.out i (by omega); omega)
  have I2 : Hid (∀ z ∈ ni ((wT us).map (c * ·)), Wd.I64 z) := Lib.hid (ni_I64 _ fun i hi => by have := WC.out i (by simp at hi; omega); omega)
  have A1 := Lib.hid fun (q : Option Addr) (k : Nat) (W : World) (hN : IsNums W q n (ni (wT us))) => allot_nums a q n k (wT us) W hI hN h1 h8 (fun i hi => by have := WB.out i hi; omega)
  have A2 := Lib.hid fun (q : Option Addr) (k : Nat) (W : World) (hN : IsNums W q n (ni (wT us))) => allot_nums (-a) q n k (wT us) W hnI hN h1 h8 (fun i hi => by have := WB.out i hi; omega)
  have A3 := Lib.hid fun (q : Option Addr) (k : Nat) (W : World) (hN : IsNums W q n (ni ((wT us).map (c * ·)))) => allot_nums a q n k ((wT us).map (c * ·)) W hI hN h1 h8 (fun i hi => WC.out i hi)
  rw [allot_mul a c hc1] at A3
  have NG := Lib.hid (allot_neg a (wT us) hT)
  have SI := Lib.hid (show ∀ i, Wd.I64 ((Sh.allot a (wT us)).getD i 0) from fun i => by
    rw [allot_getD]
    have := Sh.sizes_le a.natAbs (wT us) hT i
    unfold Wd.I64 at *
    split <;> omega)
  have hal : (Sh.allot a (wT us)).length = n := by rw [allot_len, hwl]
  have hbl : (Sh.allot (-a) (wT us)).length = n := by rw [allot_len, hwl]
  generalize Sh.allot a (wT us) = sa at *
  generalize Sh.allot (-a) (wT us) = sb at *
  clear hc WB WC hT ha
  go_enter Tryd.func11, Tryd.ntmps11
  go_wp2_with fail
  refine (awake3 _ hG).mono ?_
  rintro _ w1 ⟨rfl, hb1⟩
  go_wp2_with fail
  go_loopw [7, 8, 34] (fun v v2 i wr => ∃ k : Nat, k ≤ n ∧ i = .int .i64 k ∧ wr.ownsRow w1.heap.size 2 1 v k (iv (ni (wT (us.take k)))) ∧ wr.ownsRow w1.heap.size 2 1 v2 k (iv (ni ((wT (us.take k)).map (c * ·)))) ∧ Apart v2 v ∧ Below w1.heap.size w1 wr) (fun _ _ i _ => n - (intOf i).toNat)
  case atStart => exact ⟨0, by omega, rfl, ⟨rfl, .inl ⟨rfl, rfl⟩⟩, ⟨rfl, .inl ⟨rfl, rfl⟩⟩, fun g h => by simp [Value.ownBlock] at h, Below.refl _ _⟩
  case round =>
    obtain ⟨k, hk, rfl, ho1, ho2, hap, BB⟩ := hrel
    by_cases hlt : k < n
    · have hkz : k < us.length := by omega
      have h0 := HN.out k hkz
      have hcz : wr.cell? ⟨b, off + k, none⟩ = some (.int .u32 ((us.getD k 0 : Nat) : Int)) := ((below_then hb1 BB).cell (block_lt_of_cell h0)).trans h0
      have hz := HU.out k
      have M1 : Hid (ni (wT (us.take (k + 1))) = ni (wT (us.take k)) ++ [1 + ((us.getD k 0 : Nat) : Int) % 1000]) := Lib.hid (by
        unfold wT
        rw [take_ni_succ us (fun u => 1 + u % 1000) k hkz]
        congr 2)
      have M2 : Hid (ni ((wT (us.take (k + 1))).map (c * ·)) = ni ((wT (us.take k)).map (c * ·)) ++ [(1 + ((us.getD k 0 : Nat) : Int) % 1000) * (c : Int)]) := Lib.hid (by
        unfold wT
        rw [List.map_map, List.map_map, take_ni_succ us ((c * ·) ∘ fun u => 1 + u % 1000) k hkz]
        congr 2
        simp only [Function.comp]
        rw [Int.natCast_mul, Int.mul_comm]
        rfl)
      generalize us.getD k 0 = z at *
      have e1 : IntKind.i64.wrap (1 + (z : Int) % 1000) = 1 + (z : Int) % 1000 := by rw [IntKind.wrap_i64]; omega
      have e3 := (wrap_mul (1 + (z : Int) % 1000) (c : Int) (by omega) (by omega)).1
      go_wp2_with (first
        | (at_builtin; refine list_append2 rfl _ _ rfl (below_alloc BB _) _ k _ rfl (own_alloc ho1 _) _ k _ (own_alloc ho2 _) hap wr.heap.size 0 1 1 [1 + (z : Int) % 1000] rfl rfl (nums_one ((Row.new wr _ _).cell 0)) (by omega) ?_; intro v1 w2 ho1' ho2' hap' BB2)
        | (at_builtin; refine list_append2 rfl _ _ rfl (below_alloc BB2 _) _ k _ rfl (own_alloc ho2' _) _ (k + 1) _ (own_alloc ho1' _) hap'.symm w2.heap.size 0 1 1 [(1 + (z : Int) % 1000) * (c : Int)] rfl rfl (nums_one ((Row.new w2 _ _).cell 0)) (by omega) ?_; intro v3 w3 ho2'' ho1'' hap'' BB3))
      go_roundw
      case rel => exact ⟨k + 1, by omega, by go_num, by rw [M1.out]; exact ho1'', by rw [M2.out]; exact ho2'', hap''.symm, BB3⟩
      case measure => simp [intOf]; omega
    · have hk0 : n = k := by omega
      subst hk0
      rw [List.take_of_length_le (by omega)] at ho1 ho2
      obtain ⟨q1, c1, rfl, hN1⟩ := nums_of_own ho1 I1.out
      obtain ⟨q2, c2, rfl, hN2⟩ := nums_of_own ho2 I2.out
      have hB2 := below_then hb1 BB
      clear hap ho1 ho2 HN HU I1 I2 e2
      go_wp2_with fail
      refine (A1.out _ _ _ hN1).mono ?_
      rintro _ w3 ⟨q3, c3, rfl, hN3, hb3⟩
      have hB3 := below_then hB2 hb3
      replace hN1 := hN1.below hb3
      replace hN2 := hN2.below hb3
      go_wp2_with fail
      refine (A2.out _ _ _ hN1).mono ?_
      rintro _ w4 ⟨q4, c4, rfl, hN4, hb4⟩
      have hB4 := below_then hB3 hb4
      replace hN2 := hN2.below hb4
      replace hN3 := hN3.below hb4
      go_wp2_with fail
      refine (A3.out _ _ _ hN2).mono ?_
      rintro _ w5 ⟨q5, c5, rfl, hN5, hb5⟩
      have hB5 := below_then hB4 hb5
      replace hN3 := hN3.below hb5
      replace hN4 := hN4.below hb5
      have EQ := Lib.hid fun (W : World) (hb : Below w5.heap.size w5 W) => equal_nums q3 q5 c3 c5 n sa W (hN3.below hb) (hN5.below hb) (by omega)
      clear A1 A2 A3 hN1 hN2 hN5 hb3 hb4 hb5 hB2 hB3 hB4
      obtain ⟨_, _, hN3⟩ := hN3
      rcases hN3 with h0 | ⟨b3, o3, rfl, hN3⟩
      · omega
      obtain ⟨_, _, hN4⟩ := hN4
      rcases hN4 with h0 | ⟨b4, o4, rfl, hN4⟩
      · omega
      go_wp2_with fail
      go_loopw [96] (fun i wr => ∃ k : Nat, k ≤ n ∧ i = .int .i64 k ∧ Below w5.heap.size w5 wr) (fun i _ => n - (intOf i).toNat)
      case atStart => exact ⟨0, by omega, rfl, Below.refl _ _⟩
      case round =>
        obtain ⟨k, hk, rfl, B5⟩ := hrel
        by_cases hlt : k < n
        · have hcx := hN3 k (by omega)
          replace hcx : wr.cell? ⟨b3, o3 + k, none⟩ = some (.int .i64 (sa.getD k 0)) := (B5.cell (block_lt_of_cell hcx)).trans hcx
          have hcy := hN4 k (by omega)
          replace hcy : wr.cell? ⟨b4, o4 + k, none⟩ = some (.int .i64 (sb.getD k 0)) := (B5.cell (block_lt_of_cell hcy)).trans hcy
          have hk1 : (0 : Int) ≤ (k : Int) := by omega
          have hk2 : (k : Int) < (n : Int) := by omega
          have hng := NG.out k
          have hsi := SI.out k
          have exy : IntKind.i64.wrap (-(sb.getD k 0)) = sa.getD k 0 := by unfold Wd.I64 at hsi; rw [IntKind.wrap_i64]; omega
          clear hng hsi EQ
          generalize sb.getD k 0 = y at *
          generalize sa.getD k 0 = x at *
          go_wp2_with fail
          go_quiet (fail)
          have BB2 := below_dN B5 nq
          go_wp2
          go_roundw
          case rel => exact ⟨k + 1, by omega, by go_num, BB2⟩
          case measure => simp [intOf]; omega
        · have hk0 : n = k := by omega
          subst hk0
          go_wp2_with fail
          refine (EQ.out _ B5).mono ?_
          rintro _ w9 ⟨rfl, hb9⟩
          go_wp2
          go_ret
          exact ⟨rfl, below_then (below_then hB5 B5) hb9⟩
theorem shareTurns_law (a : Int) (p : Option Addr) (n cap0 : Nat) (us : List Nat) (bz : Int) (w : World) (hG : Glb w) (hI : Wd.I64 a) (hn : IsU32 w p n us) (hb : 0 ≤ bz ∧ bz ≤ 255) :
    Calls Tryd.prog 11 #[.int .i64 a, .slice p n cap0, .int .u8 bz] w fun e w' => e = .returned (.bool true) ∧ Below w.heap.size w w' := by
  by_cases h : 1 ≤ n ∧ n ≤ 8
  · have hq1 : ((n : Int) == 0) = false := by simp; omega
    have hq2 : decide ((8 : Int) < (n : Int)) = false := by simp; omega
    by_cases ha : a = -9223372036854775808
    · subst ha
      go_enter Tryd.func11, Tryd.ntmps11
      go_wp2_with fail
      refine (awake3 _ hG).mono ?_
      rintro _ w1 ⟨rfl, hb1⟩
      go_wp2
      go_ret
      exact ⟨rfl, hb1⟩
    · have e : bz = ((bz.toNat : Nat) : Int) := by omega
      rw [e]
      exact shareTurns_any a p n cap0 us bz.toNat w hG hI ha hn h.1 h.2 (by omega)
  · by_cases h0 : n = 0
    · subst h0
      go_enter Tryd.func11, Tryd.ntmps11
      go_wp2_with fail
      refine (awake3 _ hG).mono ?_
      rintro _ w1 ⟨rfl, hb1⟩
      go_wp2
      go_ret
      exact ⟨rfl, hb1⟩
    · have hq1 : ((n : Int) == 0) = false := by simp; omega
      have hq2 : (8 : Int) < (n : Int) := by omega
      go_enter Tryd.func11, Tryd.ntmps11
      go_wp2_with fail
      refine (awake3 _ hG).mono ?_
      rintro _ w1 ⟨rfl, hb1⟩
      go_wp2
      go_ret
      exact ⟨rfl, hb1⟩
end Go.Proofs.YtpgjmhhdhngdcaaDoor
