/-
  The machine's side of the law KeyLinks: it answers true.
-/
import Derived.Test.YtahagfdjpldblaaGreatDoorIn
import Derived.Test.YtahagfdjpldblaaGreatDoorContains
import Derived.Test.YtahagfdjpldblaaGreatDoorCount
import Derived.Test.YtahagfdjpldblaaGreatDoorQuietS
import Derived.Test.YtahagfdjpldblaaGreatDoorSums
import Derived.Carry
namespace Go.Proofs.YtahagfdjpldblaaGreatDoor
open Go.RowKit Ky
set_option linter.unusedVariables false
set_option linter.unusedSimpArgs false

theorem pair_ranges {w : World} {b o : Nat} {x : K × K} (h : w.rangeAt b o (pc x)) : w.rangeAt b o [.int .u32 (x.1.a : Int), .int .u16 (x.1.e : Int), .int .u16 (x.1.p : Int)] ∧ w.rangeAt b (o + 3) [.int .u32 (x.2.a : Int), .int .u16 (x.2.e : Int), .int .u16 (x.2.p : Int)] := by
  refine ⟨fun j v hv => h j v ?_, fun j v hv => ?_⟩
  · rcases j with _ | _ | _ | j
    · exact hv
    · exact hv
    · exact hv
    · simp at hv
  · have h2 := h (3 + j) v (by
      rcases j with _ | _ | _ | j
      · exact hv
      · exact hv
      · exact hv
      · simp at hv)
    rw [← Nat.add_assoc] at h2
    exact h2
theorem row_range {w : World} {g : Nat} {x : K × K} {t : TypeId} (h : Row w g (pc x).toArray t) : w.rangeAt g 0 (pc x) := fun j v hv => by
  rw [Nat.zero_add, h.cell j, List.getElem?_toArray]
  exact hv
set_option maxHeartbeats 4000000 in
set_option maxRecDepth 100000 in
theorem keyLinks_law (a : Option Addr) (len cap : Nat) (l : List (K × K)) (c : K × K) (w : World) (hG : Glb5 w) (hl : l.length = len) (hok : ∀ x ∈ l, okp x) (hE : ElsAt pc 6 pk0.1 w a l) (hc : okp c) :
    Calls Tryz.prog 4 #[.slice a len cap, .agg (pc c).toArray] w fun e w' => e = .returned (.bool true) ∧ Below w.heap.size w w' := by
  have HB := Lib.hid (below_alloc (Below.refl _ w) (.cells (pc c).toArray 49))
  have HR := Lib.hid (Row.new w (pc c).toArray 49)
  have HG := Lib.hid hG
  have HE := Lib.hid hE
  have HOK := Lib.hid hok
  have HC := Lib.hid hc
  subst hl
  clear hG hE hok hc
  go_enter Tryz.func4, Tryz.ntmps4
  go_wp2_with fail
  generalize w.alloc (.cells (pc c).toArray 49) = w1 at *
  refine (awake5 _ (HG.out.below HB.out)).mono ?_
  rintro _ w2 ⟨rfl, hb⟩
  have HB2 := Lib.hid (below_then HB.out hb)
  have HR2 := Lib.hid (HR.out.below hb)
  clear hb HB HR w1 HG
  have mm : ∀ (t : TypeId) (W : World), (Instr.makeMap t none).run Tryz.prog W = .ok (.map (some W.heap.size)) (W.alloc (.map #[] 0)) := fun _ _ => rfl
  by_cases hlen : 60 < l.length
  · have h1 : (60 : Int) < (l.length : Int) := by omega
    go_wp2_with fail
    go_ret
    exact ⟨rfl, HB2.out⟩
  · have h1 : ¬ (60 : Int) < (l.length : Int) := by omega
    have HL := Lib.hid hlen
    clear hlen
    go_wp2_with fail
    have hM0 : MapIs (w2.alloc (.map #[] 0)) Tryz.prog 49 pval lval w2.heap.size 0 (cG ((l.map sm2).take 0)) := MapIs.new w2 Tryz.prog 49 pval lval
    have HB3 := Lib.hid (below_alloc HB2.out (.map #[] 0))
    have HR3 := Lib.hid (HR2.out.alloc (.map #[] 0))
    obtain ⟨b, hb⟩ : ∃ b, b = w2.heap.size := ⟨_, rfl⟩
    have hbw : w.heap.size ≤ b := by rw [hb]; exact HB2.out.size
    have hb3 : w.heap.size < b := by rw [hb]; exact HR2.out.lt
    rw [← hb] at hM0 ⊢
    clear hb HB2 HR2
    generalize w2.alloc (.map #[] 0) = w3 at *
    have HM3 := Lib.hid hM0
    have HBW := Lib.hid hbw
    have HB3' := Lib.hid hb3
    clear hM0 mm h1 hbw hb3
    go_loopw [25] (fun i wr => ∃ k : Nat, k ≤ l.length ∧ i = .int .i64 k ∧ MapIs wr Tryz.prog 49 pval lval b k (cG ((l.map sm2).take k)) ∧ Below w.heap.size w wr ∧ Row wr w.heap.size (pc c).toArray 49) (fun i _ => l.length - (intOf i).toNat)
    case atStart => exact ⟨0, by omega, rfl, HM3.out, HB3.out, HR3.out⟩
    case round =>
      obtain ⟨k, hk, rfl, hM, BB, RR⟩ := hrel
      have HM := Lib.hid hM
      have HBB := Lib.hid BB
      have HRR := Lib.hid RR
      clear hM BB RR
      by_cases hlt : k < l.length
      · have hk1 : (0 : Int) ≤ (k : Int) := by omega
        have hk2 : (k : Int) < (l.length : Int) := by omega
        obtain ⟨bl, off, rfl, hcells⟩ : ∃ bl off, a = some ⟨bl, off, none⟩ ∧ ∀ i, i < l.length → w.rangeAt bl (off + i * 6) (pc (l.getD i pk0.1)) := by
          rcases HE.out with h | h
          · exact absurd hlt (by rw [h]; simp)
          · exact h
        have HCE := Lib.hid hcells
        have hx := hcells k hlt
        have hox := HOK.out _ (getD_mem (d := pk0.1) hlt)
        have HT := Lib.hid (take_succ' l pk0.1 k hlt)
        generalize hgx : l.getD k pk0.1 = x at *
        have RX : wr.rangeAt bl (off + k * 6) (pc x) := range_below hx HBB.out
        have c0 : wr.cell? ⟨bl, off + k * 6, none⟩ = some (.int .u32 (x.1.a : Int)) := RX 0 _ rfl
        have c1 : wr.cell? ⟨bl, off + k * 6 + 1, none⟩ = some (.int .u16 (x.1.e : Int)) := RX 1 _ rfl
        have c2 : wr.cell? ⟨bl, off + k * 6 + 2, none⟩ = some (.int .u16 (x.1.p : Int)) := RX 2 _ rfl
        have c3 : wr.cell? ⟨bl, off + k * 6 + 3, none⟩ = some (.int .u32 (x.2.a : Int)) := RX 3 _ rfl
        have c4 : wr.cell? ⟨bl, off + k * 6 + 4, none⟩ = some (.int .u16 (x.2.e : Int)) := RX 4 _ rfl
        have c5 : wr.cell? ⟨bl, off + k * 6 + 5, none⟩ = some (.int .u16 (x.2.p : Int)) := RX 5 _ rfl
        have HX := Lib.hid hgx
        clear hcells hx hgx RX
        go_wp2_with fail
        obtain ⟨g8, hg8⟩ : ∃ g, g = wr.heap.size := ⟨_, rfl⟩
        have hBx := below_alloc (Below.refl _ wr) (.cells #[.int .u32 (x.1.a : Int), .int .u16 (x.1.e : Int), .int .u16 (x.1.p : Int), .int .u32 (x.2.a : Int), .int .u16 (x.2.e : Int), .int .u16 (x.2.p : Int)] 49)
        have R8 := Row.new wr #[.int .u32 (x.1.a : Int), .int .u16 (x.1.e : Int), .int .u16 (x.1.p : Int), .int .u32 (x.2.a : Int), .int .u16 (x.2.e : Int), .int .u16 (x.2.p : Int)] 49
        have hb8 : b < g8 := by rw [hg8]; exact HM.out.lt
        rw [← hg8] at R8 ⊢
        have HM1 := Lib.hid (HM.out.below hBx)
        have HBB1 := Lib.hid (below_then HBB.out hBx)
        have HRR1 := Lib.hid (HRR.out.below hBx)
        clear hBx hg8 HM HBB HRR c0 c1 c2 c3 c4 c5
        generalize wr.alloc (.cells #[.int .u32 (x.1.a : Int), .int .u16 (x.1.e : Int), .int .u16 (x.1.p : Int), .int .u32 (x.2.a : Int), .int .u16 (x.2.e : Int), .int .u16 (x.2.p : Int)] 49) = wz at *
        have hblk : ∀ w', wz.grownBy w' (some b) → w'.heap[g8]? = wz.heap[g8]? := fun w' h => h.block g8 R8.lt (by intro e; injection e with e; omega)
        have LX : ∀ w', wz.grownBy w' (some b) → w'.rangeAt g8 0 (pc x) := fun w' h j v hv => by
          rw [Nat.zero_add, Row.cell (show Row w' g8 _ _ from (hblk w' h).trans R8) j]
          show (pc x).toArray[j]? = some v
          rw [List.getElem?_toArray]
          exact hv
        have LX1 : ∀ w', wz.grownBy w' (some b) → w'.rangeAt g8 0 [.int .u32 (x.1.a : Int), .int .u16 (x.1.e : Int), .int .u16 (x.1.p : Int)] := fun w' h => (pair_ranges (LX w' h)).1
        have LX2 : ∀ w', wz.grownBy w' (some b) → w'.rangeAt g8 3 [.int .u32 (x.2.a : Int), .int .u16 (x.2.e : Int), .int .u16 (x.2.p : Int)] := fun w' h => (pair_ranges (LX w' h)).2
        have LK : ∀ w', wz.grownBy w' (some b) → MapIs w' Tryz.prog 49 pval lval b k (cG ((l.map sm2).take k)) → Calls Tryz.prog 15 #[.map (some b), (sm x.1).val, (sm x.2).val] w' fun e w'' => e = .returned (.tuple #[]) ∧ wz.grownBy w'' (some b) ∧ MapIs w'' Tryz.prog 49 pval lval b (k + 1) (cG ((l.map sm2).take (k + 1))) := fun w' h1 h2 => by
          have hlen := HL.out
          have hcnt : cnt ((l.map sm2).take k) (sm2 x) ≤ k := Nat.le_trans (cnt_le _ _) (by simp; omega)
          refine (link_any b k _ (sm x.1) (sm x.2) (sm_ok _) (sm_ok _) (cnt ((l.map sm2).take k) (sm2 x)) (cG_get _ _) (by omega) (by omega) w' h2).mono ?_
          rintro _ wy ⟨rfl, hm, hg⟩
          refine ⟨rfl, h1.trans hg, ?_⟩
          have e := cG_step ((l.map sm2).take k) (sm2 x)
          rw [show (l.map sm2).take (k + 1) = (l.map sm2).take k ++ [sm2 x] by rw [← HX.out]; exact map_take_succ' l sm2 pk0.1 k hlt, ← e]
          exact hm
        refine region_vals1 (n := 8) 7 (by kernel_rfl) (fun c' w' => wz.grownBy w' (some b) ∧ MapIs w' Tryz.prog 49 pval lval b (if c' then k + 1 else k) (cG ((l.map sm2).take (if c' then k + 1 else k)))) (fun i => (#[.map (some b), .pointer (some ⟨g8, 0, none⟩), x.1.val, (sm x.1).val, .pointer (some ⟨g8, 3, none⟩), x.2.val, (sm x.2).val, .tuple #[]] : Array Value).getD i undef) ⟨List.toArray ((.slice (some ⟨bl, off, none⟩) l.length cap) :: (.agg (pc c).toArray) :: undef :: (.pointer (some ⟨w.heap.size, 0, none⟩)) :: (.bool false) :: (.map (some b)) :: (.map none) :: undef :: (.pointer (some ⟨g8, 0, none⟩)) :: undef :: undef :: undef :: undef :: undef :: undef :: undef :: undef :: (.bool true) :: (.bool false) :: (.slice (some ⟨bl, off, none⟩) l.length cap) :: (.int .i64 (l.length : Int)) :: (.bool (decide (60 < (l.length : Int)))) :: (.map (some b)) :: (.slice (some ⟨bl, off, none⟩) l.length cap) :: (.int .i64 (l.length : Int)) :: (.int .i64 (k : Int)) :: (.bool true) :: (.pointer (some ⟨bl, off + k * 6, none⟩)) :: (.agg #[.int .u32 (x.1.a : Int), .int .u16 (x.1.e : Int), .int .u16 (x.1.p : Int), .int .u32 (x.2.a : Int), .int .u16 (x.2.e : Int), .int .u16 (x.2.p : Int)]) :: (.map (some b)) :: (.pointer (some ⟨g8, 0, none⟩)) :: (x.1.val) :: ((sm x.1).val) :: (.pointer (some ⟨g8, 3, none⟩)) :: (x.2.val) :: ((sm x.2).val) :: (.tuple #[]) :: (u37) :: (u38) :: (u39) :: (u40) :: (u41) :: (u42) :: (u43) :: undef :: undef :: undef :: undef :: undef :: undef :: undef :: undef :: undef :: undef :: undef :: undef :: undef :: undef :: undef :: undef :: undef :: undef :: undef :: undef :: undef :: undef :: undef :: undef :: undef :: undef :: undef :: undef :: undef :: undef :: undef :: undef :: undef :: undef :: undef :: undef :: undef :: undef :: undef :: undef :: undef :: undef :: undef :: undef :: undef :: undef :: undef :: undef :: undef :: undef :: undef :: undef :: undef :: undef :: undef :: undef :: undef :: undef :: undef :: undef :: undef :: undef :: undef :: undef :: undef :: undef :: undef :: undef :: undef :: undef :: undef :: undef :: undef :: undef :: undef :: undef :: undef :: undef :: undef :: undef :: undef :: undef :: undef :: undef :: undef :: undef :: undef :: undef :: undef :: undef :: undef :: undef :: undef :: undef :: undef :: undef :: undef :: undef :: undef :: undef :: undef :: undef :: undef :: undef :: undef :: undef :: undef :: undef :: undef :: undef :: undef :: undef :: undef :: undef :: undef :: undef :: undef :: undef :: undef :: []), []⟩ (by kernel_rfl) (by kernel_rfl) ⟨⟨rfl, rfl, rfl, Nat.le_refl _, fun _ _ _ => rfl⟩, HM1.out⟩ rfl (by kernel_rfl) ?_ ?_
        · intro i o ho c wx hcm S
          rcases i with _ | _ | _ | _ | _ | _ | _ | _ | i
          all_goals (first | (simp at ho; done) | (obtain rfl := Option.some.inj ho))
          · exact yv_val rfl S (by go_simp)
          · exact yv_val rfl S (by go_simp)
          · exact yv_load rfl S _ _ rfl g8 0 rfl (LX1 _ S.1) Tryz.underlying29 rfl (by kernel_rfl)
          · exact yv_call rfl rfl Tryz.func8 (by kernel_rfl) rfl #[x.1.val] (by go_simp) ((small_any x.1 hox.1 wx).mono (by rintro _ wy ⟨rfl, hb⟩; exact ⟨rfl, S.1.trans (grown_below hb), S.2.below hb⟩))
          · exact yv_val rfl S (by go_simp)
          · exact yv_load rfl S _ _ rfl g8 3 rfl (LX2 _ S.1) Tryz.underlying29 rfl (by kernel_rfl)
          · exact yv_call rfl rfl Tryz.func8 (by kernel_rfl) rfl #[x.2.val] (by go_simp) ((small_any x.2 hox.2 wx).mono (by rintro _ wy ⟨rfl, hb⟩; exact ⟨rfl, S.1.trans (grown_below hb), S.2.below hb⟩))
          · obtain rfl : c = false := hcm rfl
            exact yv_call rfl rfl Tryz.func15 (by kernel_rfl) rfl #[.map (some b), (sm x.1).val, (sm x.2).val] (by go_simp) (LK wx S.1 S.2)
        · intro wy S
          simp only [if_true] at S
          have R8y : Row wy g8 _ _ := (hblk wy S.1).trans R8
          have d0 := R8y.cell 0
          have d1 := R8y.cell 1
          have d2 := R8y.cell 2
          have d3 := R8y.cell 3
          have d4 := R8y.cell 4
          have d5 := R8y.cell 5
          have HM2 := Lib.hid S.2
          have HBB2 := Lib.hid (below_grown HBB1.out HBW.out S.1)
          have HRR2 : Hid (Row wy w.heap.size (pc c).toArray 49) := Lib.hid ((S.1.block _ HRR1.out.lt (by intro e; injection e with e; have := HB3'.out; omega)).trans HRR1.out)
          have ev : IntKind.i64.wrap ((k : Int) + 1) = ((k + 1 : Nat) : Int) := by have := HL.out; rw [IntKind.wrap_i64]; omega
          clear S R8y LX LX1 LX2 LK hblk R8 HM1 HBB1 HRR1
          go_wp2_with fail
          refine (link_none x.1 x.2 wy).mono ?_
          rintro _ w4 ⟨rfl, hb4⟩
          clear d0 d1 d2 d3 d4 d5
          go_wp2_with fail
          exact ⟨⟨k + 1, by omega, rfl, HM2.out.below hb4, below_then HBB2.out hb4, HRR2.out.below hb4⟩, by simp [intOf]; omega⟩
      · obtain rfl : k = l.length := by omega
        have hk0 : ¬ ((l.length : Int) < (l.length : Int)) := by omega
        have hM := HM.out
        rw [show (l.map sm2).take l.length = l.map sm2 by rw [List.take_of_length_le (by simp)]] at hM
        have HM := Lib.hid hM
        clear hM HM3 HB3 HR3
        go_wp2_with fail
        refine (pairs_any b l.length (cG (l.map sm2)) wr (by have := HL.out; omega) (fun d u hd => by obtain ⟨y, _, rfl⟩ := List.mem_map.1 ((cG_some _ _).1 ⟨u, hd⟩); exact sm2_ok y) HM.out).mono ?_
        rintro _ w4 ⟨v, ps, rfl, hnd, hmem, hrise, hP, hb4⟩
        have HM4 := Lib.hid (HM.out.below hb4)
        have HB4 := Lib.hid (below_then HBB.out hb4)
        have HR4 := Lib.hid (HRR.out.below hb4)
        have HMEM : Hid (∀ d, d ∈ ps ↔ d ∈ l.map sm2) := Lib.hid fun d => (hmem d).trans (cG_some _ d)
        have HND := Lib.hid hnd
        have HRI := Lib.hid hrise
        have hpl : ps.length ≤ 1000 := by
          have h1 := nodup_len ps (l.map sm2) hnd (fun d hd => (HMEM.out d).1 hd)
          have := HL.out
          simp at h1
          omega
        obtain ⟨pp, pcap, rfl, hP⟩ := hP
        have HP := Lib.hid hP
        clear hb4 HM HBB HRR hmem hnd hrise hP
        have hk2 : (0 : Int) ≤ (ps.length : Int) := by omega
        have HPL := Lib.hid hpl
        clear hpl hk0
        go_wp2_with fail
        go_loopw [10, 48] (fun t i wr => ∃ j : Nat, j ≤ ps.length ∧ i = .int .i64 j ∧ t = .int .i64 ((((ps.take j).map fun p => cnt (l.map sm2) p).sum : Nat) : Int) ∧ Below w4.heap.size w4 wr) (fun t i _ => ps.length - (intOf i).toNat)
        case atStart => exact ⟨0, by omega, rfl, rfl, Below.refl _ _⟩
        case round =>
          obtain ⟨j, hj, rfl, rfl, BB⟩ := hrel
          have HBB := Lib.hid BB
          clear BB
          by_cases hjt : j < ps.length
          · have hj1 : (0 : Int) ≤ (j : Int) := by omega
            have hj2 : (j : Int) < (ps.length : Int) := by omega
            obtain ⟨gp, rfl, hpc⟩ : ∃ gp, pp = some ⟨gp, 0, none⟩ ∧ ∀ t u, (pcs ps)[t]? = some u → w4.cell? ⟨gp, t, none⟩ = some u := by
              rcases HP.out with h | h
              · exact absurd hjt (by rw [h]; simp)
              · exact h
            have HPC := Lib.hid hpc
            have cw := fun q hq => ((HBB.out.cell (block_lt_of_cell ((pairs_cell hpc j hjt q hq).trans (List.getElem?_eq_getElem (by rw [pc_len]; exact hq))))).trans (pairs_cell hpc j hjt q hq))
            have c0 := cw 0 (by omega)
            have c1 := cw 1 (by omega)
            have c2 := cw 2 (by omega)
            have c3 := cw 3 (by omega)
            have c4 := cw 4 (by omega)
            have c5 := cw 5 (by omega)
            have hpm : ps.getD j pk0.1 ∈ ps := getD_mem hjt
            have HT := Lib.hid (take_succ' ps pk0.1 j hjt)
            generalize hgx : ps.getD j pk0.1 = p at *
            have HPJ := Lib.hid hgx
            have HPM := Lib.hid hpm
            simp only [pc, List.getElem?_cons_zero, List.getElem?_cons_succ] at c0 c1 c2 c3 c4 c5
            rw [Nat.add_zero] at c0
            generalize hgt : (((ps.take j).map fun p => cnt (l.map sm2) p).sum : Nat) = tot at *
            have HTOT := Lib.hid hgt
            clear hpc cw hgx hpm hgt
            go_wp2_with fail
            obtain ⟨g12, hg12⟩ : ∃ g, g = wr.heap.size := ⟨_, rfl⟩
            have hBx := below_alloc (Below.refl _ wr) (.cells #[.int .u32 (p.1.a : Int), .int .u16 (p.1.e : Int), .int .u16 (p.1.p : Int), .int .u32 (p.2.a : Int), .int .u16 (p.2.e : Int), .int .u16 (p.2.p : Int)] 49)
            have R12 := Row.new wr #[.int .u32 (p.1.a : Int), .int .u16 (p.1.e : Int), .int .u16 (p.1.p : Int), .int .u32 (p.2.a : Int), .int .u16 (p.2.e : Int), .int .u16 (p.2.p : Int)] 49
            rw [← hg12] at R12 ⊢
            have HBB1 := Lib.hid (below_then HBB.out hBx)
            clear hBx hg12 HBB c0 c1 c2 c3 c4 c5
            generalize wr.alloc (.cells #[.int .u32 (p.1.a : Int), .int .u16 (p.1.e : Int), .int .u16 (p.1.p : Int), .int .u32 (p.2.a : Int), .int .u16 (p.2.e : Int), .int .u16 (p.2.p : Int)] 49) = wz at *
            have HR12 := Lib.hid R12
            clear R12
            go_loopw [13, 55] (fun n i wr => ∃ k : Nat, k ≤ l.length ∧ i = .int .i64 k ∧ n = .int .i64 ((cnt ((l.map sm2).take k) p : Nat) : Int) ∧ Below wz.heap.size wz wr) (fun n i _ => l.length - (intOf i).toNat)
            case atStart => exact ⟨0, by omega, rfl, rfl, Below.refl _ _⟩
            case round =>
              obtain ⟨k, hk, rfl, rfl, BB⟩ := hrel
              have HBB := Lib.hid BB
              clear BB
              by_cases hlt : k < l.length
              · have hk1 : (0 : Int) ≤ (k : Int) := by omega
                have hk2 : (k : Int) < (l.length : Int) := by omega
                obtain ⟨bl, off, rfl, hcells⟩ : ∃ bl off, a = some ⟨bl, off, none⟩ ∧ ∀ i, i < l.length → w.rangeAt bl (off + i * 6) (pc (l.getD i pk0.1)) := by
                  rcases HE.out with h | h
                  · exact absurd hlt (by rw [h]; simp)
                  · exact h
                have HCE := Lib.hid hcells
                have hx := hcells k hlt
                have hox := HOK.out _ (getD_mem (d := pk0.1) hlt)
                generalize hgx : l.getD k pk0.1 = x at *
                have RX : wr.rangeAt bl (off + k * 6) (pc x) := range_below (range_below (range_below hx HB4.out) HBB1.out) HBB.out
                have c0 : wr.cell? ⟨bl, off + k * 6, none⟩ = some (.int .u32 (x.1.a : Int)) := RX 0 _ rfl
                have c1 : wr.cell? ⟨bl, off + k * 6 + 1, none⟩ = some (.int .u16 (x.1.e : Int)) := RX 1 _ rfl
                have c2 : wr.cell? ⟨bl, off + k * 6 + 2, none⟩ = some (.int .u16 (x.1.p : Int)) := RX 2 _ rfl
                have c3 : wr.cell? ⟨bl, off + k * 6 + 3, none⟩ = some (.int .u32 (x.2.a : Int)) := RX 3 _ rfl
                have c4 : wr.cell? ⟨bl, off + k * 6 + 4, none⟩ = some (.int .u16 (x.2.e : Int)) := RX 4 _ rfl
                have c5 : wr.cell? ⟨bl, off + k * 6 + 5, none⟩ = some (.int .u16 (x.2.p : Int)) := RX 5 _ rfl
                have HX := Lib.hid hgx
                clear hcells hx hgx RX
                go_wp2_with fail
                obtain ⟨g15, hg15⟩ : ∃ g, g = wr.heap.size := ⟨_, rfl⟩
                have hBx := below_alloc (Below.refl _ wr) (.cells #[.int .u32 (x.1.a : Int), .int .u16 (x.1.e : Int), .int .u16 (x.1.p : Int), .int .u32 (x.2.a : Int), .int .u16 (x.2.e : Int), .int .u16 (x.2.p : Int)] 49)
                have R15 := Row.new wr #[.int .u32 (x.1.a : Int), .int .u16 (x.1.e : Int), .int .u16 (x.1.p : Int), .int .u32 (x.2.a : Int), .int .u16 (x.2.e : Int), .int .u16 (x.2.p : Int)] 49
                rw [← hg15] at R15 ⊢
                have R12 := (HR12.out.below HBB.out).below hBx
                have HBB3 := Lib.hid (below_then HBB.out hBx)
                clear hBx hg15 HBB c0 c1 c2 c3 c4 c5
                generalize wr.alloc (.cells #[.int .u32 (x.1.a : Int), .int .u16 (x.1.e : Int), .int .u16 (x.1.p : Int), .int .u32 (x.2.a : Int), .int .u16 (x.2.e : Int), .int .u16 (x.2.p : Int)] 49) = wq at *
                have d0 : ∀ n : QW (fun w' => Below wq.heap.size wq w'), n.w.cell? ⟨g15, 0, none⟩ = some (.int .u32 (x.1.a : Int)) := fun n => (R15.below n.h).cell 0
                have d1 : ∀ n : QW (fun w' => Below wq.heap.size wq w'), n.w.cell? ⟨g15, 1, none⟩ = some (.int .u16 (x.1.e : Int)) := fun n => (R15.below n.h).cell 1
                have d2 : ∀ n : QW (fun w' => Below wq.heap.size wq w'), n.w.cell? ⟨g15, 2, none⟩ = some (.int .u16 (x.1.p : Int)) := fun n => (R15.below n.h).cell 2
                have d3 : ∀ n : QW (fun w' => Below wq.heap.size wq w'), n.w.cell? ⟨g15, 3, none⟩ = some (.int .u32 (x.2.a : Int)) := fun n => (R15.below n.h).cell 3
                have d4 : ∀ n : QW (fun w' => Below wq.heap.size wq w'), n.w.cell? ⟨g15, 4, none⟩ = some (.int .u16 (x.2.e : Int)) := fun n => (R15.below n.h).cell 4
                have d5 : ∀ n : QW (fun w' => Below wq.heap.size wq w'), n.w.cell? ⟨g15, 5, none⟩ = some (.int .u16 (x.2.p : Int)) := fun n => (R15.below n.h).cell 5
                have f0 : ∀ n : QW (fun w' => Below wq.heap.size wq w'), n.w.cell? ⟨g12, 0, none⟩ = some (.int .u32 (p.1.a : Int)) := fun n => (R12.below n.h).cell 0
                have f1 : ∀ n : QW (fun w' => Below wq.heap.size wq w'), n.w.cell? ⟨g12, 1, none⟩ = some (.int .u16 (p.1.e : Int)) := fun n => (R12.below n.h).cell 1
                have f2 : ∀ n : QW (fun w' => Below wq.heap.size wq w'), n.w.cell? ⟨g12, 2, none⟩ = some (.int .u16 (p.1.p : Int)) := fun n => (R12.below n.h).cell 2
                have f3 : ∀ n : QW (fun w' => Below wq.heap.size wq w'), n.w.cell? ⟨g12, 3, none⟩ = some (.int .u32 (p.2.a : Int)) := fun n => (R12.below n.h).cell 3
                have f4 : ∀ n : QW (fun w' => Below wq.heap.size wq w'), n.w.cell? ⟨g12, 4, none⟩ = some (.int .u16 (p.2.e : Int)) := fun n => (R12.below n.h).cell 4
                have f5 : ∀ n : QW (fun w' => Below wq.heap.size wq w'), n.w.cell? ⟨g12, 5, none⟩ = some (.int .u16 (p.2.p : Int)) := fun n => (R12.below n.h).cell 5
                have s1 : ∀ n : QW (fun w' => Below wq.heap.size wq w'), Calls Tryz.prog 8 #[.agg #[.int .u32 (x.1.a : Int), .int .u16 (x.1.e : Int), .int .u16 (x.1.p : Int)]] n.w fun e w'' => e = .returned (.agg #[.int .u32 ((sm x.1).a : Int), .int .u16 ((sm x.1).e : Int), .int .u16 ((sm x.1).p : Int)]) ∧ ∃ m : QW (fun w' => Below wq.heap.size wq w'), w'' = m.w := fun n => Calls.quietS ((small_any x.1 hox.1 n.w).mono (by rintro _ wy ⟨rfl, hb⟩; exact ⟨rfl, below_then n.h hb⟩))
                have s2 : ∀ n : QW (fun w' => Below wq.heap.size wq w'), Calls Tryz.prog 8 #[.agg #[.int .u32 (x.2.a : Int), .int .u16 (x.2.e : Int), .int .u16 (x.2.p : Int)]] n.w fun e w'' => e = .returned (.agg #[.int .u32 ((sm x.2).a : Int), .int .u16 ((sm x.2).e : Int), .int .u16 ((sm x.2).p : Int)]) ∧ ∃ m : QW (fun w' => Below wq.heap.size wq w'), w'' = m.w := fun n => Calls.quietS ((small_any x.2 hox.2 n.w).mono (by rintro _ wy ⟨rfl, hb⟩; exact ⟨rfl, below_then n.h hb⟩))
                have HS1 := Lib.hid s1
                have HS2 := Lib.hid s2
                clear s1 s2
                have evn : IntKind.i64.wrap ((cnt ((l.map sm2).take k) p : Int) + 1) = ((cnt ((l.map sm2).take k) p + 1 : Nat) : Int) := by
                  have h1 := cnt_le ((l.map sm2).take k) p
                  have h2 : ((l.map sm2).take k).length ≤ l.length := by simp; omega
                  have := HL.out
                  rw [IntKind.wrap_i64]
                  omega
                have ev : IntKind.i64.wrap ((k : Int) + 1) = ((k + 1 : Nat) : Int) := by have := HL.out; rw [IntKind.wrap_i64]; omega
                have HC1 : Hid (cnt ((l.map sm2).take (k + 1)) p = cnt ((l.map sm2).take k) p + if p = sm2 x then 1 else 0) := Lib.hid (by rw [map_take_succ' l sm2 pk0.1 k hlt, HX.out, cnt_add])
                by_cases h1 : sm x.1 = p.1
                · by_cases h2 : sm x.2 = p.2
                  · have hpx : p = sm2 x := (Prod.ext h1 h2).symm
                    rw [if_pos hpx] at HC1
                    clear hpx
                    as_aux_lemma =>
                      have q1 : ∀ (r s : Result Next), (if ((sm x.1).a : Int) = (p.1.a : Int) then if ((sm x.1).e : Int) = (p.1.e : Int) then if ((sm x.1).p : Int) = (p.1.p : Int) then r else s else s else s) = r := fun r s => by rw [key_if, if_pos h1]
                      have q2 : ∀ (r s : Result Next), (if ((sm x.2).a : Int) = (p.2.a : Int) then if ((sm x.2).e : Int) = (p.2.e : Int) then if ((sm x.2).p : Int) = (p.2.p : Int) then r else s else s else s) = r := fun r s => by rw [key_if, if_pos h2]
                      clear h1 h2
                      refine region_quietS (fun w' => Below wq.heap.size wq w') (by kernel_rfl) (by kernel_rfl) (below_dr (Below.refl _ _)) (fun hne => ?_)
                      repeat (go_big_quiet_step (first | (with_reducible exact HS1.out _) | (with_reducible exact HS2.out _)))
                      refine wpQuiet_nil ?_
                      intro _ hw'
                      obtain ⟨⟨wy, S⟩, rfl⟩ := hw'
                      clear d0 d1 d2 d3 d4 d5 f0 f1 f2 f3 f4 f5
                      clear q1 q2
                      go_wp2_with fail
                      refine ⟨⟨k + 1, by omega, rfl, by rw [HC1.out]; first | rfl | (push_cast; rfl), below_then HBB3.out S⟩, by simp [intOf]; omega⟩
                  · have hpx : ¬ p = sm2 x := fun e => h2 (by rw [e]; rfl)
                    rw [if_neg hpx] at HC1
                    clear hpx
                    as_aux_lemma =>
                      have q1 : ∀ (r s : Result Next), (if ((sm x.1).a : Int) = (p.1.a : Int) then if ((sm x.1).e : Int) = (p.1.e : Int) then if ((sm x.1).p : Int) = (p.1.p : Int) then r else s else s else s) = r := fun r s => by rw [key_if, if_pos h1]
                      have q2 : ∀ (r s : Result Next), (if ((sm x.2).a : Int) = (p.2.a : Int) then if ((sm x.2).e : Int) = (p.2.e : Int) then if ((sm x.2).p : Int) = (p.2.p : Int) then r else s else s else s) = s := fun r s => by rw [key_if, if_neg h2]
                      clear h1 h2
                      refine region_quietS (fun w' => Below wq.heap.size wq w') (by kernel_rfl) (by kernel_rfl) (below_dr (Below.refl _ _)) (fun hne => ?_)
                      repeat (go_big_quiet_step (first | (with_reducible exact HS1.out _) | (with_reducible exact HS2.out _)))
                      refine wpQuiet_nil ?_
                      intro _ hw'
                      obtain ⟨⟨wy, S⟩, rfl⟩ := hw'
                      clear d0 d1 d2 d3 d4 d5 f0 f1 f2 f3 f4 f5
                      clear q1 q2
                      go_wp2_with fail
                      refine ⟨⟨k + 1, by omega, rfl, by rw [HC1.out]; rfl, below_then HBB3.out S⟩, by simp [intOf]; omega⟩
                · have hpx : ¬ p = sm2 x := fun e => h1 (by rw [e]; rfl)
                  rw [if_neg hpx] at HC1
                  clear hpx
                  as_aux_lemma =>
                    have q1 : ∀ (r s : Result Next), (if ((sm x.1).a : Int) = (p.1.a : Int) then if ((sm x.1).e : Int) = (p.1.e : Int) then if ((sm x.1).p : Int) = (p.1.p : Int) then r else s else s else s) = s := fun r s => by rw [key_if, if_neg h1]
                    clear h1
                    refine region_quietS (fun w' => Below wq.heap.size wq w') (by kernel_rfl) (by kernel_rfl) (below_dr (Below.refl _ _)) (fun hne => ?_)
                    repeat (go_big_quiet_step (first | (with_reducible exact HS1.out _) | (with_reducible exact HS2.out _)))
                    refine wpQuiet_nil ?_
                    intro _ hw'
                    obtain ⟨⟨wy, S⟩, rfl⟩ := hw'
                    clear d0 d1 d2 d3 d4 d5 f0 f1 f2 f3 f4 f5
                    clear q1
                    go_wp2_with fail
                    refine ⟨⟨k + 1, by omega, rfl, by rw [HC1.out]; rfl, below_then HBB3.out S⟩, by simp [intOf]; omega⟩
              · obtain rfl : k = l.length := by omega
                rw [show (l.map sm2).take l.length = l.map sm2 by rw [List.take_of_length_le (by simp)]]
                have hpos : 0 < cnt (l.map sm2) p := (cnt_pos _ _).2 ((HMEM.out p).1 HPM.out)
                have hcle : cnt (l.map sm2) p ≤ 60 := by
                  have h1 := cnt_le (l.map sm2) p
                  have h2 := HL.out
                  simp at h1
                  omega
                have hokp : okp p := by
                  obtain ⟨y, _, rfl⟩ := List.mem_map.1 ((HMEM.out p).1 HPM.out)
                  exact sm2_ok y
                have HM5 := HM4.out.below (below_then HBB1.out HBB.out)
                have R12 := HR12.out.below HBB.out
                have HBBw := Lib.hid (below_then HBB1.out HBB.out)
                have sm1 : ∀ n : QW (fun w' => Below wr.heap.size wr w'), Calls Tryz.prog 17 #[.map (some b), .agg #[.int .u32 (p.1.a : Int), .int .u16 (p.1.e : Int), .int .u16 (p.1.p : Int)], .agg #[.int .u32 (p.2.a : Int), .int .u16 (p.2.e : Int), .int .u16 (p.2.p : Int)]] n.w fun e w'' => e = .returned (.int .i64 ((cnt (l.map sm2) p : Nat) : Int)) ∧ ∃ m : QW (fun w' => Below wr.heap.size wr w'), w'' = m.w := fun n => Calls.quietS ((many_any b _ _ p.1 p.2 hokp.1 hokp.2 n.w (HM5.below n.h)).mono (by rintro _ wy ⟨rfl, hb⟩; exact ⟨by rw [cG_get], below_then n.h hb⟩))
                have hsum : (Value.int .i64 (((tot + cnt (l.map sm2) p : Nat) : Nat) : Int)) = .int .i64 ((((ps.take (j + 1)).map fun p => cnt (l.map sm2) p).sum : Nat) : Int) := by
                  rw [HT.out, List.map_append, List.sum_append, HTOT.out]
                  simp
                have htot : tot ≤ 60 * 1000 := by
                  have h1 := sums_le (ps.take j) (fun p => cnt (l.map sm2) p) 60 (fun x => by have h1 := cnt_le (l.map sm2) x; have h2 := HL.out; simp at h1; omega)
                  have h2 := HPL.out
                  simp only [List.length_take] at h1
                  rw [HTOT.out] at h1
                  omega
                generalize cnt (l.map sm2) p = cn at *
                have evt : IntKind.i64.wrap ((tot : Int) + (cn : Int)) = ((tot + cn : Nat) : Int) := by rw [IntKind.wrap_i64]; omega
                have evj : IntKind.i64.wrap ((j : Int) + 1) = ((j + 1 : Nat) : Int) := by have := HPL.out; rw [IntKind.wrap_i64]; omega
                have HSUM := Lib.hid hsum
                have hkl : ¬ ((l.length : Int) < (l.length : Int)) := by omega
                clear evt evj
                go_wp2_with fail
                have evt : IntKind.i64.wrap ((tot : Int) + (cn : Int)) = ((tot + cn : Nat) : Int) := by rw [IntKind.wrap_i64]; omega
                have evj : IntKind.i64.wrap ((j : Int) + 1) = ((j + 1 : Nat) : Int) := by have := HPL.out; rw [IntKind.wrap_i64]; omega
                have hz1 : ¬ ((cn : Int) = 0) := by omega
                have hz3 : ((cn : Int) == 0) = false := beq_eq_false_iff_ne.2 hz1
                have Hsm1 := Lib.hid sm1
                clear sm1
                have f0 : ∀ n : QW (fun w' => Below wr.heap.size wr w'), n.w.cell? ⟨g12, 0, none⟩ = some (.int .u32 (p.1.a : Int)) := fun n => (R12.below n.h).cell 0
                have f1 : ∀ n : QW (fun w' => Below wr.heap.size wr w'), n.w.cell? ⟨g12, 1, none⟩ = some (.int .u16 (p.1.e : Int)) := fun n => (R12.below n.h).cell 1
                have f2 : ∀ n : QW (fun w' => Below wr.heap.size wr w'), n.w.cell? ⟨g12, 2, none⟩ = some (.int .u16 (p.1.p : Int)) := fun n => (R12.below n.h).cell 2
                have f3 : ∀ n : QW (fun w' => Below wr.heap.size wr w'), n.w.cell? ⟨g12, 3, none⟩ = some (.int .u32 (p.2.a : Int)) := fun n => (R12.below n.h).cell 3
                have f4 : ∀ n : QW (fun w' => Below wr.heap.size wr w'), n.w.cell? ⟨g12, 4, none⟩ = some (.int .u16 (p.2.e : Int)) := fun n => (R12.below n.h).cell 4
                have f5 : ∀ n : QW (fun w' => Below wr.heap.size wr w'), n.w.cell? ⟨g12, 5, none⟩ = some (.int .u16 (p.2.p : Int)) := fun n => (R12.below n.h).cell 5
                clear hcle HM5 hsum htot hkl
                by_cases hj0 : j = 0
                · as_aux_lemma =>
                    have hj0i : ¬ (0 : Int) < (j : Int) := by omega
                    have hj00 : ¬ 0 < j := by omega
                    clear hj0 hj1 hj2
                    refine region_quietS (fun w' => Below wr.heap.size wr w') (by kernel_rfl) (by kernel_rfl) (below_dr (Below.refl _ _)) (fun hne => ?_)
                    repeat (go_big_quiet_step (first | (with_reducible exact Hsm1.out _)))
                    refine wpQuiet_nil ?_
                    intro _ hw'
                    obtain ⟨⟨wy, S⟩, rfl⟩ := hw'
                    clear f0 f1 f2 f3 f4 f5
                    go_wp2_with fail
                    refine ⟨⟨j + 1, by omega, by push_cast; rfl, HSUM.out, below_then HBBw.out S⟩, by simp [intOf]; omega⟩
                · obtain ⟨jj, rfl⟩ : ∃ jj, j = jj + 1 := ⟨j - 1, by omega⟩
                  have hjl : jj < ps.length := by omega
                  have cw : ∀ n : QW (fun w' => Below wr.heap.size wr w'), ∀ q, q < 6 → n.w.cell? ⟨gp, jj * 6 + q, none⟩ = (pc (ps.getD jj pk0.1))[q]? := fun n q hq => (((below_then HBBw.out n.h).cell (block_lt_of_cell ((pairs_cell HPC.out jj hjl q hq).trans (List.getElem?_eq_getElem (by rw [pc_len]; exact hq))))).trans (pairs_cell HPC.out jj hjl q hq))
                  have hqm : ps.getD jj pk0.1 ∈ ps := getD_mem hjl
                  have hrise : pcmp (ps.getD jj pk0.1) p < 0 := by
                    have h1 := HRI.out jj (jj + 1) (by omega) hjt
                    rw [HPJ.out] at h1
                    have h2 : ps.getD jj pk0.1 ≠ p := fun e => by
                      have h3 := (List.getElem_inj (i := jj) (j := jj + 1) (h₀ := hjl) (h₁ := hjt) HND.out).1 (by
                        have e1 := HPJ.out
                        rw [List.getD_eq_getElem?_getD, List.getElem?_eq_getElem hjt] at e1
                        rw [List.getD_eq_getElem?_getD, List.getElem?_eq_getElem hjl] at e
                        exact e.trans e1.symm)
                      omega
                    exact pcmp_tri h1 (by
                      obtain ⟨y, _, e⟩ := List.mem_map.1 ((HMEM.out _).1 hqm)
                      rw [← e]
                      exact sm2_ok y) hokp h2
                  have hokq : okp (ps.getD jj pk0.1) := by
                    obtain ⟨y, _, e⟩ := List.mem_map.1 ((HMEM.out _).1 hqm)
                    rw [← e]
                    exact sm2_ok y
                  generalize ps.getD jj pk0.1 = q at *
                  have g0 : ∀ n : QW (fun w' => Below wr.heap.size wr w'), n.w.cell? ⟨gp, jj * 6, none⟩ = some (.int .u32 (q.1.a : Int)) := fun n => cw n 0 (by omega)
                  have g1 : ∀ n : QW (fun w' => Below wr.heap.size wr w'), n.w.cell? ⟨gp, jj * 6 + 1, none⟩ = some (.int .u16 (q.1.e : Int)) := fun n => cw n 1 (by omega)
                  have g2 : ∀ n : QW (fun w' => Below wr.heap.size wr w'), n.w.cell? ⟨gp, jj * 6 + 2, none⟩ = some (.int .u16 (q.1.p : Int)) := fun n => cw n 2 (by omega)
                  have g3 : ∀ n : QW (fun w' => Below wr.heap.size wr w'), n.w.cell? ⟨gp, jj * 6 + 3, none⟩ = some (.int .u32 (q.2.a : Int)) := fun n => cw n 3 (by omega)
                  have g4 : ∀ n : QW (fun w' => Below wr.heap.size wr w'), n.w.cell? ⟨gp, jj * 6 + 4, none⟩ = some (.int .u16 (q.2.e : Int)) := fun n => cw n 4 (by omega)
                  have g5 : ∀ n : QW (fun w' => Below wr.heap.size wr w'), n.w.cell? ⟨gp, jj * 6 + 5, none⟩ = some (.int .u16 (q.2.p : Int)) := fun n => cw n 5 (by omega)
                  have hi1 : (0 : Int) ≤ (jj : Int) := by omega
                  have hi2 : (jj : Int) < (ps.length : Int) := by omega
                  have hi3 : (0 : Int) < ((jj + 1 : Nat) : Int) := by omega
                  have hi4 : 0 < jj + 1 := by omega
                  have hi5 : (0 : Int) < (jj : Int) + 1 := by omega
                  have ei : IntKind.i64.wrap (jj : Int) = (jj : Int) := by have := HPL.out; rw [IntKind.wrap_i64]; omega
                  have ei3 : IntKind.i64.wrap ((jj : Int) + 1 + 1) = ((jj + 1 + 1 : Nat) : Int) := by have := HPL.out; rw [IntKind.wrap_i64]; omega
                  have ei2 : IntKind.i64.wrap (((jj + 1 : Nat) : Int) - 1) = (jj : Int) := by have := HPL.out; rw [IntKind.wrap_i64]; omega
                  clear cw hqm hj1 hj2
                  rw [pcmp_lt] at hrise
                  by_cases h1 : q.1.num < p.1.num
                  · as_aux_lemma =>
                      have sl1 : ∀ n : QW (fun w' => Below wr.heap.size wr w'), Calls Tryz.prog 13 #[.agg #[.int .u32 (q.1.a : Int), .int .u16 (q.1.e : Int), .int .u16 (q.1.p : Int)], .agg #[.int .u32 (p.1.a : Int), .int .u16 (p.1.e : Int), .int .u16 (p.1.p : Int)]] n.w fun e w'' => e = .returned (.bool true) ∧ ∃ m : QW (fun w' => Below wr.heap.size wr w'), w'' = m.w := fun n => Calls.quietS ((less_any q.1 p.1 hokq.1 hokp.1 n.w).mono (by rintro _ wy ⟨rfl, hb⟩; exact ⟨by rw [decide_eq_true h1], below_then n.h hb⟩))
                      have Hsl1 := Lib.hid sl1
                      clear sl1
                      clear h1 hrise
                      refine region_quietS (fun w' => Below wr.heap.size wr w') (by kernel_rfl) (by kernel_rfl) (below_dr (Below.refl _ _)) (fun hne => ?_)
                      repeat (go_big_quiet_step (first | (with_reducible exact Hsm1.out _) | (with_reducible exact Hsl1.out _)))
                      refine wpQuiet_nil ?_
                      intro _ hw'
                      obtain ⟨⟨wy, S⟩, rfl⟩ := hw'
                      clear f0 f1 f2 f3 f4 f5 g0 g1 g2 g3 g4 g5
                      go_wp2_with fail
                      refine ⟨⟨jj + 1 + 1, by omega, by push_cast; rfl, HSUM.out, below_then HBBw.out S⟩, by simp [intOf]; omega⟩
                  · as_aux_lemma =>
                      have h2 : q.1 = p.1 := num_inj hokq.1 hokp.1 (by omega)
                      have h3 : q.2.num < p.2.num := by omega
                      have sl1 : ∀ n : QW (fun w' => Below wr.heap.size wr w'), Calls Tryz.prog 13 #[.agg #[.int .u32 (q.1.a : Int), .int .u16 (q.1.e : Int), .int .u16 (q.1.p : Int)], .agg #[.int .u32 (p.1.a : Int), .int .u16 (p.1.e : Int), .int .u16 (p.1.p : Int)]] n.w fun e w'' => e = .returned (.bool false) ∧ ∃ m : QW (fun w' => Below wr.heap.size wr w'), w'' = m.w := fun n => Calls.quietS ((less_any q.1 p.1 hokq.1 hokp.1 n.w).mono (by rintro _ wy ⟨rfl, hb⟩; exact ⟨by rw [decide_eq_false h1], below_then n.h hb⟩))
                      have sl2 : ∀ n : QW (fun w' => Below wr.heap.size wr w'), Calls Tryz.prog 13 #[.agg #[.int .u32 (q.2.a : Int), .int .u16 (q.2.e : Int), .int .u16 (q.2.p : Int)], .agg #[.int .u32 (p.2.a : Int), .int .u16 (p.2.e : Int), .int .u16 (p.2.p : Int)]] n.w fun e w'' => e = .returned (.bool true) ∧ ∃ m : QW (fun w' => Below wr.heap.size wr w'), w'' = m.w := fun n => Calls.quietS ((less_any q.2 p.2 hokq.2 hokp.2 n.w).mono (by rintro _ wy ⟨rfl, hb⟩; exact ⟨by rw [decide_eq_true h3], below_then n.h hb⟩))
                      have q1 : ∀ (r s : Result Next), (if (q.1.a : Int) = (p.1.a : Int) then if (q.1.e : Int) = (p.1.e : Int) then if (q.1.p : Int) = (p.1.p : Int) then r else s else s else s) = r := fun r s => by rw [key_if, if_pos h2]
                      have Hsl1 := Lib.hid sl1
                      have Hsl2 := Lib.hid sl2
                      clear sl1 sl2
                      clear h1 h2 h3 hrise
                      refine region_quietS (fun w' => Below wr.heap.size wr w') (by kernel_rfl) (by kernel_rfl) (below_dr (Below.refl _ _)) (fun hne => ?_)
                      repeat (go_big_quiet_step (first | (with_reducible exact Hsm1.out _) | (with_reducible exact Hsl1.out _) | (with_reducible exact Hsl2.out _)))
                      refine wpQuiet_nil ?_
                      intro _ hw'
                      obtain ⟨⟨wy, S⟩, rfl⟩ := hw'
                      clear f0 f1 f2 f3 f4 f5 g0 g1 g2 g3 g4 g5 q1
                      go_wp2_with fail
                      refine ⟨⟨jj + 1 + 1, by omega, by push_cast; rfl, HSUM.out, below_then HBBw.out S⟩, by simp [intOf]; omega⟩
          · obtain rfl : j = ps.length := by omega
            have hsum : (((ps.take ps.length).map fun p => cnt (l.map sm2) p).sum : Nat) = l.length := by
              rw [List.take_length, sum_counts (l.map sm2) ps HND.out (fun c hc => (HMEM.out c).2 hc)]
              simp
            rw [hsum]
            clear hsum
            have hk0 : ¬ ((ps.length : Int) < (ps.length : Int)) := by omega
            have RC := HR4.out.below HBB.out
            have e0 : wr.cell? ⟨w.heap.size, 0, none⟩ = some (.int .u32 (c.1.a : Int)) := RC.cell 0
            have e1 : wr.cell? ⟨w.heap.size, 1, none⟩ = some (.int .u16 (c.1.e : Int)) := RC.cell 1
            have e2 : wr.cell? ⟨w.heap.size, 2, none⟩ = some (.int .u16 (c.1.p : Int)) := RC.cell 2
            have e3 : wr.cell? ⟨w.heap.size, 3, none⟩ = some (.int .u32 (c.2.a : Int)) := RC.cell 3
            have e4 : wr.cell? ⟨w.heap.size, 4, none⟩ = some (.int .u16 (c.2.e : Int)) := RC.cell 4
            have e5 : wr.cell? ⟨w.heap.size, 5, none⟩ = some (.int .u16 (c.2.p : Int)) := RC.cell 5
            have HM5 := Lib.hid (HM4.out.below HBB.out)
            have HB5 := Lib.hid (below_then HB4.out HBB.out)
            have HP5 : Hid (PairsAt wr (.slice pp ps.length pcap) ps) := Lib.hid (PairsAt.below ⟨pp, pcap, rfl, HP.out⟩ HBB.out)
            have HRC := Lib.hid RC
            clear RC
            go_wp2_with fail
            refine (many_any b _ _ c.1 c.2 HC.out.1 HC.out.2 wr HM5.out).mono ?_
            rintro _ w5 ⟨rfl, hb5⟩
            rw [show ((cG (l.map sm2)) (c.1, c.2)).getD 0 = cnt (l.map sm2) c from cG_get _ _]
            have RC5 := HRC.out.below hb5
            clear e0 e1 e2 e3 e4 e5
            have e0 : w5.cell? ⟨w.heap.size, 0, none⟩ = some (.int .u32 (c.1.a : Int)) := RC5.cell 0
            have e1 : w5.cell? ⟨w.heap.size, 1, none⟩ = some (.int .u16 (c.1.e : Int)) := RC5.cell 1
            have e2 : w5.cell? ⟨w.heap.size, 2, none⟩ = some (.int .u16 (c.1.p : Int)) := RC5.cell 2
            have e3 : w5.cell? ⟨w.heap.size, 3, none⟩ = some (.int .u32 (c.2.a : Int)) := RC5.cell 3
            have e4 : w5.cell? ⟨w.heap.size, 4, none⟩ = some (.int .u16 (c.2.e : Int)) := RC5.cell 4
            have e5 : w5.cell? ⟨w.heap.size, 5, none⟩ = some (.int .u16 (c.2.p : Int)) := RC5.cell 5
            have HB6 := Lib.hid (below_then HB5.out hb5)
            have HP6 := Lib.hid (HP5.out.below hb5)
            have HR6 := Lib.hid RC5
            have HPL2 := Lib.hid (show ps.length ≤ 1000 from HPL.out)
            clear hb5 RC5
            have hcm : Hid (c ∈ ps ↔ 0 < cnt (l.map sm2) c) := Lib.hid ((HMEM.out c).trans (cnt_pos _ _).symm)
            generalize cnt (l.map sm2) c = cc at *
            have HCM := hcm
            clear hcm
            by_cases hc0 : 0 < cc
            · as_aux_lemma =>
                have hcI : (0 : Int) < (cc : Int) := by omega
                have hin : decide (c ∈ ps) = true := decide_eq_true (HCM.out.2 hc0)
                have HIN := Lib.hid hin
                clear hin
                go_wp2_with fail
                refine (contains_any _ ps c w5 HP6.out HPL2.out).mono ?_
                rintro _ w6 ⟨rfl, hb6⟩
                rw [HIN.out]
                have RC6 := HR6.out.below hb6
                clear e0 e1 e2 e3 e4 e5
                have e0 : w6.cell? ⟨w.heap.size, 0, none⟩ = some (.int .u32 (c.1.a : Int)) := RC6.cell 0
                have e1 : w6.cell? ⟨w.heap.size, 1, none⟩ = some (.int .u16 (c.1.e : Int)) := RC6.cell 1
                have e2 : w6.cell? ⟨w.heap.size, 2, none⟩ = some (.int .u16 (c.1.p : Int)) := RC6.cell 2
                have e3 : w6.cell? ⟨w.heap.size, 3, none⟩ = some (.int .u32 (c.2.a : Int)) := RC6.cell 3
                have e4 : w6.cell? ⟨w.heap.size, 4, none⟩ = some (.int .u16 (c.2.e : Int)) := RC6.cell 4
                have e5 : w6.cell? ⟨w.heap.size, 5, none⟩ = some (.int .u16 (c.2.p : Int)) := RC6.cell 5
                have HB7 := Lib.hid (below_then HB6.out hb6)
                clear hb6
                go_wp2_with fail
                refine (many_none c.1 c.2 HC.out.1 HC.out.2 w6).mono ?_
                rintro _ w7 ⟨rfl, hb7⟩
                have HB8 := Lib.hid (below_then HB7.out hb7)
                clear hb7
                go_wp2_with fail
                refine (pairs_none w7).mono ?_
                rintro _ w8 ⟨rfl, hb8⟩
                have HB9 := Lib.hid (below_then HB8.out hb8)
                clear hb8
                go_wp2_with fail
                go_ret
                exact ⟨rfl, HB9.out⟩
            · as_aux_lemma =>
                have hcI : ¬ (0 : Int) < (cc : Int) := by omega
                have hin : decide (c ∈ ps) = false := decide_eq_false (fun h => hc0 (HCM.out.1 h))
                have HIN := Lib.hid hin
                clear hin
                go_wp2_with fail
                refine (contains_any _ ps c w5 HP6.out HPL2.out).mono ?_
                rintro _ w6 ⟨rfl, hb6⟩
                rw [HIN.out]
                have RC6 := HR6.out.below hb6
                clear e0 e1 e2 e3 e4 e5
                have e0 : w6.cell? ⟨w.heap.size, 0, none⟩ = some (.int .u32 (c.1.a : Int)) := RC6.cell 0
                have e1 : w6.cell? ⟨w.heap.size, 1, none⟩ = some (.int .u16 (c.1.e : Int)) := RC6.cell 1
                have e2 : w6.cell? ⟨w.heap.size, 2, none⟩ = some (.int .u16 (c.1.p : Int)) := RC6.cell 2
                have e3 : w6.cell? ⟨w.heap.size, 3, none⟩ = some (.int .u32 (c.2.a : Int)) := RC6.cell 3
                have e4 : w6.cell? ⟨w.heap.size, 4, none⟩ = some (.int .u16 (c.2.e : Int)) := RC6.cell 4
                have e5 : w6.cell? ⟨w.heap.size, 5, none⟩ = some (.int .u16 (c.2.p : Int)) := RC6.cell 5
                have HB7 := Lib.hid (below_then HB6.out hb6)
                clear hb6
                go_wp2_with fail
                refine (many_none c.1 c.2 HC.out.1 HC.out.2 w6).mono ?_
                rintro _ w7 ⟨rfl, hb7⟩
                have HB8 := Lib.hid (below_then HB7.out hb7)
                clear hb7
                go_wp2_with fail
                refine (pairs_none w7).mono ?_
                rintro _ w8 ⟨rfl, hb8⟩
                have HB9 := Lib.hid (below_then HB8.out hb8)
                clear hb8
                go_wp2_with fail
                go_ret
                exact ⟨rfl, HB9.out⟩
end Go.Proofs.YtahagfdjpldblaaGreatDoor
