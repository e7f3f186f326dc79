/-
  Own texts, several in one (Make8, ElsG, Print13).
-/
import Derived.Test.YtbhjkddjgikaiaaGreatDoorMrg27
import Derived.Test.YtbhjkddjgikaiaaGreatDoorMrg26
import Derived.Shelf.Strings.Builder1
namespace Go.Proofs.YtbhjkddjgikaiaaGreatDoor
open Go.RowKit
set_option linter.unusedVariables false
set_option linter.unusedSimpArgs false

namespace Sc
/-- the k-th period's first day -/
def dayAt (first : Int) (long : List Int) : Nat → Int
  | 0 => first
  | k + 1 => dayAt first long k + (1 + long.getD k 0 % 40)
def mkStarts (first : Int) (long : List Int) (k : Nat) : List Int := (List.range (k + 1)).map (dayAt first long)
theorem mkStarts_succ (first : Int) (long : List Int) (k : Nat) : mkStarts first long (k + 1) = mkStarts first long k ++ [dayAt first long (k + 1)] := by
  unfold mkStarts
  rw [List.range_succ, List.map_append]
  rfl
theorem dayAt_bd (first : Int) (long : List Int) (h : -32768 ≤ first ∧ first ≤ 32767) : ∀ k, first + k ≤ dayAt first long k ∧ dayAt first long k ≤ first + 40 * k
  | 0 => by simp [dayAt]
  | k + 1 => by
    have := dayAt_bd first long h k
    unfold dayAt
    omega
end Sc
theorem append_day2 (W : World) (B : Nat) (ty : TypeId) (v : Value) (n : Nat) (xs : List Int) (hown : W.ownsRow B 44 1 v n (nv .i32 xs)) (g : Nat) (z : Int) (RG : Row W g #[.int .i32 z] 44) (hn : n ≤ 100000) (hB : B ≤ W.heap.size) :
    ∃ v' w', (Builtin.append_ #[43, 43] ty #[v, .slice (some ⟨g, 0, none⟩) 1 1]).run Tryz.prog W = .ok v' w' ∧ w'.ownsRow B 44 1 v' (n + 1) (nv .i32 (xs ++ [z])) ∧ Below B W w' ∧ ∀ b cs t, Row W b cs t → t ≠ 44 → Row w' b cs t := by
  have hi0 : (Tryz.prog.info? 44).map (fun i => (i.zero, i.size, i.bytes)) = some (some (.int .i32 0), 1, 4) := by kernel_rfl
  obtain ⟨i, hi, h⟩ := Option.map_eq_some_iff.1 hi0
  simp only [Prod.mk.injEq] at h
  obtain ⟨h1, h2, h3⟩ := h
  obtain ⟨v', w', hr, k2, k3, k4, k5⟩ := run_append_own_at (P := Tryz.prog) W B 43 ty 44 i (.int .i32 0) 1 4 Tryz.underlying43 hi h1 h2 h3 rfl (by omega) v n (nv .i32 xs) hown ⟨g, 0, none⟩ 1 1 [.int .i32 z] rfl (fun j u hj => by
    rw [addr_add, Nat.zero_add, RG.cell j]
    simpa using hj) (fun u hu => by simp at hu; subst hu; rfl) (by unfold maxLen; omega) (by omega) hB
  refine ⟨v', w', hr, by unfold nv at k2 ⊢; rwa [List.map_append], (Below.refl B W).grown k3 hB (fun k hk => (ownW_lt hown hk).1), fun b cs t R ht => (k3.block b R.lt ?_).trans R⟩
  intro e
  obtain ⟨cs2, h⟩ := own_cells hown e.symm
  have h2 := h.symm.trans R
  simp at h2
  exact ht h2.2.symm
set_option maxHeartbeats 8000000 in
set_option maxRecDepth 100000 in
theorem make8_any (first : Int) (vl : Value) (long : List Int) (hf : -32768 ≤ first ∧ first ≤ 32767) (hb : ∀ n ∈ long, 0 ≤ n ∧ n ≤ 255) (hlen : long.length ≤ 9223372036854775807) (w : World) (hN : NsAt .u8 w vl long) :
    Calls Tryz.prog 65 #[.int .i16 first, vl] w fun e w' => ∃ v, e = .returned (.agg #[v, .int .i32 (Sc.dayAt first long (min long.length 12) + 31)]) ∧ w'.ownsRow w.heap.size 44 1 v (min long.length 12 + 1) (nv .i32 (Sc.mkStarts first long (min long.length 12))) ∧ Below w.heap.size w w' := by
  obtain ⟨pl, cl, rfl, hc⟩ := hN
  have HC := Lib.hid hc
  have HF := Lib.hid (And.intro hf hlen)
  have HBY := Lib.hid hb
  have e0 : IntKind.i32.wrap first = first := by rw [IntKind.wrap_i32]; omega
  clear hc hf hb hlen
  go_enter Tryz.func65, Tryz.ntmps65
  go_wp2_with fail
  have R0 := Row.new w #[.slice none 0 0, .int .i32 0] 46
  have B0 := below_alloc (Below.refl _ w) (.cells #[.slice none 0 0, .int .i32 0] 46)
  have hz1 : (w.alloc (.cells #[.slice none 0 0, .int .i32 0] 46)).heap.size = w.heap.size + 1 := by simp
  generalize w.alloc (.cells #[.slice none 0 0, .int .i32 0] 46) = wa at *
  have R1 := Row.new' wa #[.int .i32 first] 44 hz1.symm
  have B1 := below_alloc B0 (.cells #[.int .i32 first] 44)
  have R01 := R0.alloc (.cells #[.int .i32 first] 44)
  have hz2 : (wa.alloc (.cells #[.int .i32 first] 44)).heap.size = w.heap.size + 1 + 1 := by simp [hz1]
  generalize wa.alloc (.cells #[.int .i32 first] 44) = wb at *
  have R2 := Row.new' wb #[.slice (some ⟨w.heap.size + 1, 0, none⟩) 1 1, .int .i32 0] 46 hz2.symm
  have B2 := below_alloc B1 (.cells #[.slice (some ⟨w.heap.size + 1, 0, none⟩) 1 1, .int .i32 0] 46)
  have R02 := R01.alloc (.cells #[.slice (some ⟨w.heap.size + 1, 0, none⟩) 1 1, .int .i32 0] 46)
  have R12 := R1.alloc (.cells #[.slice (some ⟨w.heap.size + 1, 0, none⟩) 1 1, .int .i32 0] 46)
  generalize wb.alloc (.cells #[.slice (some ⟨w.heap.size + 1, 0, none⟩) 1 1, .int .i32 0] 46) = wc at *
  obtain ⟨gr, hgr⟩ : ∃ g, g = w.heap.size := ⟨_, rfl⟩
  obtain ⟨gc, hgc⟩ : ∃ g, g = w.heap.size + 1 + 1 := ⟨_, rfl⟩
  have HG := Lib.hid (And.intro hgr hgc)
  rw [← hgr] at R02
  rw [← hgc] at R2
  rw [← hgc, ← hgr]
  have hown : wc.ownsRow w.heap.size 44 1 (.slice (some ⟨w.heap.size + 1, 0, none⟩) 1 1) (0 + 1) (nv .i32 (Sc.mkStarts first long 0)) := ⟨rfl, .inr ⟨_, 1, _, rfl, by omega, R12, Nat.le_refl _, by unfold maxLen; omega, rfl, rfl⟩⟩
  have HOWN := Lib.hid hown
  have HRC := Lib.hid R2
  have HRR := Lib.hid R02
  have HBB := Lib.hid B2
  clear R0 B0 hz1 R1 B1 R01 hz2 R2 B2 R02 R12 hgr hgc hown
  go_loopw [5, 16] (fun dv iv wr => ∃ (k : Nat) (v : Value), k ≤ min long.length 12 ∧ iv = .int .i64 (k : Int) ∧ dv = .int .i32 (Sc.dayAt first long k) ∧ wr.ownsRow w.heap.size 44 1 v (k + 1) (nv .i32 (Sc.mkStarts first long k)) ∧ Row wr gc #[v, .int .i32 0] 46 ∧ Row wr gr #[.slice none 0 0, .int .i32 0] 46 ∧ Below w.heap.size w wr) (fun _ iv _ => long.length - (intOf iv).toNat)
  case atStart => exact ⟨0, _, by omega, rfl, rfl, HOWN.out, HRC.out, HRR.out, HBB.out⟩
  case round =>
    obtain ⟨k, v, hk, rfl, rfl, hown, RC, RR, BB⟩ := hrel
    have HOW2 := Lib.hid hown
    have HRC2 := Lib.hid RC
    have HRR2 := Lib.hid RR
    have HB2 := Lib.hid BB
    have hd := Sc.dayAt_bd first long HF.out.1 k
    have hf := HF.out.1
    have c0 : wr.cell? ⟨gc, 0, none⟩ = some v := RC.cell 0
    clear hown RC RR BB
    have fin : k = min long.length 12 → ∀ u, u = Sc.dayAt first long k → True := fun _ _ _ => trivial
    by_cases hlt : k < long.length
    · have i0 : (0 : Int) ≤ (k : Int) := by omega
      have i1 : (k : Int) < (long.length : Int) := by omega
      obtain ⟨b, off, rfl, hcc⟩ : ∃ b off, pl = some ⟨b, off, none⟩ ∧ ∀ i, i < long.length → w.cell? ⟨b, off + i, none⟩ = some (.int .u8 (long.getD i 0)) := by
        rcases HC.out with h | h
        · rw [h] at hlt; simp at hlt
        · exact h
      have ck := cell_then (hcc k hlt) HB2.out
      have hn := HBY.out (long.getD k 0) (getD_mem hlt)
      by_cases h12 : k < 12
      · have hq : ((k : Int) == 12) = false := beq_eq_false_iff_ne.2 (by omega)
        have hst : Sc.dayAt first long (k + 1) = Sc.dayAt first long k + (1 + long.getD k 0 % 40) := rfl
        have HST := Lib.hid hst
        have hms := Sc.mkStarts_succ first long k
        rw [hst] at hms
        have HMS := Lib.hid hms
        obtain ⟨n, hnn⟩ : ∃ n, n = long.getD k 0 := ⟨_, rfl⟩
        rw [← hnn] at ck hn HST HMS
        obtain ⟨d, hdd⟩ : ∃ d, d = Sc.dayAt first long k := ⟨_, rfl⟩
        rw [← hdd] at hd HST HMS ⊢
        have hmd : 0 ≤ n % 40 ∧ n % 40 < 40 := by omega
        have m0 : n.tmod 40 = n % 40 := Int.tmod_eq_emod_of_nonneg hn.1
        have HI := Lib.hid (And.intro hlt h12)
        clear hcc hst hms hnn hdd fin
        generalize n % 40 = m at *
        have e1 : IntKind.u8.wrap m = m := by rw [IntKind.wrap_u8]; omega
        have e2 : IntKind.i32.wrap m = m := by rw [IntKind.wrap_i32]; omega
        have e3 : IntKind.i32.wrap (1 + m) = 1 + m := by rw [IntKind.wrap_i32]; omega
        have e4 : IntKind.i32.wrap (d + (1 + m)) = d + (1 + m) := by rw [IntKind.wrap_i32]; omega
        have e5 : IntKind.i64.wrap ((k : Int) + 1) = (k : Int) + 1 := by rw [IntKind.wrap_i64]; omega
        obtain ⟨v6, w6, hr6, ho6, hb6, hk6⟩ := append_day2 (wr.alloc (.cells #[.int .i32 (d + (1 + m))] 44)) w.heap.size 43 v (k + 1) (Sc.mkStarts first long k) (own_alloc HOW2.out _) wr.heap.size (d + (1 + m)) (Row.new wr _ _) (by omega) (by have := HB2.out.size; simp; omega)
        obtain ⟨p6, c6, rfl⟩ := own_slice ho6
        have RC6 := hk6 gc _ _ (HRC2.out.alloc _) (by show ¬ (46 : Nat) = 44; omega)
        have RR6 := hk6 gr _ _ (HRR2.out.alloc _) (by show ¬ (46 : Nat) = 44; omega)
        have f0 : w6.cell? ⟨gc, 0, none⟩ = some v := RC6.cell 0
        have z0 : w6.frozen? ⟨gc, 0, none⟩ = false := RC6.frozen 0
        have hne : gr ≠ gc := by have := HG.out; omega
        have HRC7 : Hid (Row (w6.setCell ⟨gc, 0, none⟩ (.slice p6 (k + 1 + 1) c6)) gc #[.slice p6 (k + 1 + 1) c6, .int .i32 0] 46) := Lib.hid (RC6.set 0 (.slice p6 (k + 1 + 1) c6))
        have HRR7 : Hid (Row (w6.setCell ⟨gc, 0, none⟩ (.slice p6 (k + 1 + 1) c6)) gr #[.slice none 0 0, .int .i32 0] 46) := Lib.hid (RR6.other ⟨gc, 0, none⟩ hne (.slice p6 (k + 1 + 1) c6))
        have hnc : (Value.slice p6 (k + 1 + 1) c6).ownBlock ≠ some gc := fun e => by
          obtain ⟨cs2, h⟩ := own_cells ho6 e
          have h2 := h.symm.trans RC6
          simp at h2
        have HO7 := Lib.hid (ownW_stored ho6 (stored_setCell w6 gc 0 (.slice p6 (k + 1 + 1) c6)) hnc)
        have HB7 := Lib.hid ((stored_setCell w6 gc 0 (.slice p6 (k + 1 + 1) c6)).below ((below_alloc HB2.out (.cells #[.int .i32 (d + (1 + m))] 44)).trans hb6) (show w.heap.size ≤ gc by have := HG.out; omega))
        have HR6 := Lib.hid hr6
        clear hr6 ho6 hb6 hk6 RC6 RR6 hne hnc hmd hlt hk hd hf
        go_wp2_with (first | (at_builtin; refine ev_run rfl (run_app_op _ _ _ _ rfl rfl rfl HR6.out) ?_))
        refine ⟨⟨k + 1, .slice p6 (k + 1 + 1) c6, by have := HI.out; omega, by simp, by rw [HST.out], by rw [HMS.out]; exact HO7.out, HRC7.out, HRR7.out, HB7.out⟩, by have := HI.out; simp [intOf]; omega⟩
      · have h12e : k = 12 := by omega
        have hq : ((k : Int) == 12) = true := by rw [h12e]; rfl
        have hkm : k = min long.length 12 := by omega
        obtain ⟨pv, cv, rfl⟩ := own_slice HOW2.out
        have hN := (NsAt.of_own HOW2.out).1
        rw [hkm] at hN hd
        have HN := Lib.hid hN
        have e6 : IntKind.i32.wrap (Sc.dayAt first long k + 31) = Sc.dayAt first long k + 31 := by rw [IntKind.wrap_i32, hkm]; omega
        have f1 : wr.cell? ⟨gc, 1, none⟩ = some (.int .i32 0) := HRC2.out.cell 1
        have z1 : wr.frozen? ⟨gc, 1, none⟩ = false := HRC2.out.frozen 1
        have hne : gr ≠ gc := by have := HG.out; omega
        have RS : Row (wr.setCell ⟨gc, 1, none⟩ (.int .i32 (Sc.dayAt first long k + 31))) gc #[.slice pv (k + 1) cv, .int .i32 (Sc.dayAt first long k + 31)] 46 := HRC2.out.set 1 _
        have RRS := HRR2.out.other ⟨gc, 1, none⟩ hne (.int .i32 (Sc.dayAt first long k + 31))
        have HBS := Lib.hid ((stored_setCell wr gc 1 (.int .i32 (Sc.dayAt first long k + 31))).below HB2.out (show w.heap.size ≤ gc by have := HG.out; omega))
        have HNS := Lib.hid (ownW_stored HOW2.out (stored_setCell wr gc 1 (.int .i32 (Sc.dayAt first long k + 31))) (fun e => by
          obtain ⟨cs2, h⟩ := own_cells HOW2.out e
          have h2 := h.symm.trans HRC2.out
          simp at h2))
        have HRS := Lib.hid RRS
        have HKM := Lib.hid hkm
        have t1 : (Tryz.prog.info? 46).map (·.size) = some (#[Value.slice pv (k + 1) cv, .int .i32 (Sc.dayAt first long k + 31)]).size := by kernel_rfl
        have t2 : (#[Value.slice pv (k + 1) cv, .int .i32 (Sc.dayAt first long k + 31)]).all (·.oneCell') = true := by kernel_rfl
        clear hN hd hf hkm hne RRS hlt hk h12 h12e hn hcc fin
        go_wp2_with (first
          | (refine ev_load rfl rfl 46 (Operand.tmp 6) rfl gc rfl RS _ Tryz.underlying46 rfl (by kernel_rfl) ?_)
          | (refine ev_store rfl 46 (Operand.tmp 4) (Operand.tmp 39) rfl gr #[.slice pv (k + 1) cv, .int .i32 (Sc.dayAt first long k + 31)] rfl rfl HRS.out t1 rfl t2 rfl ?_; intro w9 RZ S9))
        have hgr2 : gr ≠ gc := by have := HG.out; omega
        have hno : (Value.slice pv (k + 1) cv).ownBlock ≠ some gr := fun e => by
          obtain ⟨cs2, h⟩ := own_cells HNS.out e
          have h2 := h.symm.trans HRS.out
          simp at h2
        refine bodyPost_ret (v := .agg #[.slice pv (k + 1) cv, .int .i32 (Sc.dayAt first long k + 31)]) (res_row rfl _ _ RZ rfl Tryz.underlying46 rfl (by kernel_rfl)) rfl ⟨.slice pv (k + 1) cv, ?_, ?_, S9.below HBS.out (by have := HG.out; omega)⟩
        · rw [HKM.out]
        · have h9 := ownW_stored HNS.out S9 hno
          rw [HKM.out] at h9 ⊢
          exact h9
    · have i1 : ¬ (k : Int) < (long.length : Int) := by omega
      have hkm : k = min long.length 12 := by omega
      obtain ⟨pv, cv, rfl⟩ := own_slice HOW2.out
      have hN := (NsAt.of_own HOW2.out).1
      rw [hkm] at hN hd
      have HN := Lib.hid hN
      have e6 : IntKind.i32.wrap (Sc.dayAt first long k + 31) = Sc.dayAt first long k + 31 := by rw [IntKind.wrap_i32, hkm]; omega
      have f1 : wr.cell? ⟨gc, 1, none⟩ = some (.int .i32 0) := HRC2.out.cell 1
      have z1 : wr.frozen? ⟨gc, 1, none⟩ = false := HRC2.out.frozen 1
      have hne : gr ≠ gc := by have := HG.out; omega
      have RS : Row (wr.setCell ⟨gc, 1, none⟩ (.int .i32 (Sc.dayAt first long k + 31))) gc #[.slice pv (k + 1) cv, .int .i32 (Sc.dayAt first long k + 31)] 46 := HRC2.out.set 1 _
      have RRS := HRR2.out.other ⟨gc, 1, none⟩ hne (.int .i32 (Sc.dayAt first long k + 31))
      have HBS := Lib.hid ((stored_setCell wr gc 1 (.int .i32 (Sc.dayAt first long k + 31))).below HB2.out (show w.heap.size ≤ gc by have := HG.out; omega))
      have HNS := Lib.hid (ownW_stored HOW2.out (stored_setCell wr gc 1 (.int .i32 (Sc.dayAt first long k + 31))) (fun e => by
        obtain ⟨cs2, h⟩ := own_cells HOW2.out e
        have h2 := h.symm.trans HRC2.out
        simp at h2))
      have HRS := Lib.hid RRS
      have HKM := Lib.hid hkm
      have t1 : (Tryz.prog.info? 46).map (·.size) = some (#[Value.slice pv (k + 1) cv, .int .i32 (Sc.dayAt first long k + 31)]).size := by kernel_rfl
      have t2 : (#[Value.slice pv (k + 1) cv, .int .i32 (Sc.dayAt first long k + 31)]).all (·.oneCell') = true := by kernel_rfl
      clear hN hd hf hkm hne RRS hlt hk fin
      go_wp2_with (first
        | (refine ev_load rfl rfl 46 (Operand.tmp 6) rfl gc rfl RS _ Tryz.underlying46 rfl (by kernel_rfl) ?_)
        | (refine ev_store rfl 46 (Operand.tmp 4) (Operand.tmp 39) rfl gr #[.slice pv (k + 1) cv, .int .i32 (Sc.dayAt first long k + 31)] rfl rfl HRS.out t1 rfl t2 rfl ?_; intro w9 RZ S9))
      have hgr2 : gr ≠ gc := by have := HG.out; omega
      have hno : (Value.slice pv (k + 1) cv).ownBlock ≠ some gr := fun e => by
        obtain ⟨cs2, h⟩ := own_cells HNS.out e
        have h2 := h.symm.trans HRS.out
        simp at h2
      refine bodyPost_ret (v := .agg #[.slice pv (k + 1) cv, .int .i32 (Sc.dayAt first long k + 31)]) (res_row rfl _ _ RZ rfl Tryz.underlying46 rfl (by kernel_rfl)) rfl ⟨.slice pv (k + 1) cv, ?_, ?_, S9.below HBS.out (by have := HG.out; omega)⟩
      · rw [HKM.out]
      · have h9 := ownW_stored HNS.out S9 hno
        rw [HKM.out] at h9 ⊢
        exact h9
end Go.Proofs.YtbhjkddjgikaiaaGreatDoor

namespace Go.Proofs.YtbhjkddjgikaiaaGreatDoor
open Go.RowKit
set_option linter.unusedVariables false
set_option linter.unusedSimpArgs false

theorem flat_len {E : Type} (f : E → List Value) (sz : Nat) (hf : ∀ x, (f x).length = sz) : ∀ l : List E, (l.flatMap f).length = l.length * sz
  | [] => by simp
  | x :: l => by rw [List.flatMap_cons, List.length_append, hf, flat_len f sz hf l, List.length_cons, Nat.succ_mul, Nat.add_comm]
theorem flat_get {E : Type} (f : E → List Value) (sz : Nat) (d : E) (hf : ∀ x, (f x).length = sz) : ∀ (l : List E) (i : Nat), i < l.length → ∀ j v, (f (l.getD i d))[j]? = some v → (l.flatMap f)[i * sz + j]? = some v
  | [], i, h, _, _, _ => by simp at h
  | x :: l, i, hi, j, v, hv => by
    rw [List.flatMap_cons]
    rcases i with _ | i
    · have hj : j < (f x).length := by
        by_cases c : j < (f x).length
        · exact c
        · exact absurd (show (f x)[j]? = some v from hv) (by rw [List.getElem?_eq_none (by omega)]; simp)
      rw [Nat.zero_mul, Nat.zero_add, List.getElem?_append_left hj]
      simpa using hv
    · rw [List.getElem?_append_right (by rw [hf, Nat.succ_mul]; omega), hf, show (i + 1) * sz + j - sz = i * sz + j by rw [Nat.succ_mul]; omega]
      exact flat_get f sz d hf l i (by simpa using hi) j v (by simpa using hv)
theorem els_ownG {E : Type} (f : E → List Value) (sz : Nat) (d : E) (hf : ∀ x, (f x).length = sz) (hsz : 0 < sz) {w : World} {B n : Nat} {e : TypeId} {v : Value} {l : List E} (h : w.ownsRow B e sz v n (l.flatMap f)) : l.length = n ∧ ∃ p cap, v = .slice p l.length cap ∧ ElsAt f sz d w p l := by
  obtain ⟨h1, h2⟩ := h
  have hl : l.length = n := by
    rw [flat_len f sz hf] at h1
    exact Nat.eq_of_mul_eq_mul_right hsz h1
  refine ⟨hl, ?_⟩
  rcases h2 with ⟨rfl, rfl⟩ | ⟨g, cap, cur, rfl, _, hh, _, _, hs, ht⟩
  · exact ⟨none, 0, by rw [hl], .inl (List.length_eq_zero_iff.1 hl)⟩
  · refine ⟨_, cap, by rw [hl], .inr ⟨g, 0, rfl, fun i hi j v hv => ?_⟩⟩
    have hj : j < sz := by
      by_cases c : j < sz
      · exact c
      · rw [List.getElem?_eq_none (by rw [hf]; omega)] at hv; cases hv
    have hg := flat_get f sz d hf l i hi j v hv
    have hlt : i * sz + j < n * sz := by
      have := Nat.mul_le_mul_right sz (show i + 1 ≤ n by omega)
      rw [Nat.succ_mul] at this
      omega
    rw [← ht, List.getElem?_take, if_pos (by omega)] at hg
    rw [cell_of_row w g _ cur e _ hh, show 0 + i * sz + j = i * sz + j by omega]
    simpa using hg
theorem info_part : ∃ i, Tryz.prog.info? 126 = some i ∧ i.zero = some (.agg (ptv (0, 0)).toArray) ∧ i.size = 2 ∧ i.bytes = 16 := by
  have hi0 : (Tryz.prog.info? 126).map (fun i => (i.zero, i.size, i.bytes)) = some (some (.agg (ptv (0, 0)).toArray), 2, 16) := by kernel_rfl
  obtain ⟨i, hi, h⟩ := Option.map_eq_some_iff.1 hi0
  simp only [Prod.mk.injEq] at h
  exact ⟨i, hi, h.1, h.2.1, h.2.2⟩
theorem append_pt (W : World) (B : Nat) (ty : TypeId) (v : Value) (n : Nat) (xs : List (Nat × Nat)) (hown : W.ownsRow B 126 2 v n (xs.flatMap ptv)) (g : Nat) (z : Nat × Nat) (RG : Row W g (ptv z).toArray 126) (hn : n ≤ 100000) (hB : B ≤ W.heap.size) :
    ∃ v' w', (Builtin.append_ #[42, 42] ty #[v, .slice (some ⟨g, 0, none⟩) 1 1]).run Tryz.prog W = .ok v' w' ∧ w'.ownsRow B 126 2 v' (n + 1) ((xs ++ [z]).flatMap ptv) ∧ Below B W w' ∧ ∀ b cs t, Row W b cs t → t ≠ 126 → Row w' b cs t := by
  obtain ⟨i, hi, h1, h2, h3⟩ := info_part
  obtain ⟨v', w', hr, k2, k3, k4, k5⟩ := run_append_own_at (P := Tryz.prog) W B 42 ty 126 i (.agg (ptv (0, 0)).toArray) 2 16 Tryz.underlying42 hi h1 h2 h3 rfl (by omega) v n (xs.flatMap ptv) hown ⟨g, 0, none⟩ 1 1 (ptv z) rfl (fun j u hj => by
    rw [addr_add, Nat.zero_add, RG.cell j]
    simpa using hj) (fun u hu => by simp [ptv] at hu; rcases hu with rfl | rfl <;> rfl) (by unfold maxLen; omega) (by omega) hB
  refine ⟨v', w', hr, by rw [List.flatMap_append]; simpa using k2, (Below.refl B W).grown k3 hB (fun k hk => (ownW_lt hown hk).1), fun b cs t R ht => (k3.block b R.lt ?_).trans R⟩
  intro e
  obtain ⟨cs2, h⟩ := own_cells hown e.symm
  have h2 := h.symm.trans R
  simp at h2
  exact ht h2.2.symm
end Go.Proofs.YtbhjkddjgikaiaaGreatDoor

namespace Go.Proofs.YtbhjkddjgikaiaaGreatDoor
open Go.RowKit
set_option linter.unusedVariables false
set_option linter.unusedSimpArgs false

def opE (e : Sc.Op × Value × Value) : List Value := opc e.1 e.2.1 e.2.2
def opE0 : Sc.Op × Value × Value := (⟨0, 0, 0, [], [], [], 0, 0⟩, .slice none 0 0, .slice none 0 0)
end Go.Proofs.YtbhjkddjgikaiaaGreatDoor
