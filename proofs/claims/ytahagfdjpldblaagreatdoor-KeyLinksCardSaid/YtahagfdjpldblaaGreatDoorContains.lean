/-
  slices.Contains over pairs of keys.
-/
import Derived.Test.YtahagfdjpldblaaGreatDoorSmall
import Derived.Test.YtahagfdjpldblaaGreatDoorPairEq
import Derived.Deep.QuietTactic
import Derived.BigQuiet
namespace Go.Proofs.YtahagfdjpldblaaGreatDoor
open Go.RowKit Ky
set_option linter.unusedVariables false
set_option linter.unusedSimpArgs false

theorem getD_mem {α : Type} {l : List α} {d : α} {k : Nat} (h : k < l.length) : l.getD k d ∈ l := by
  rw [List.getD_eq_getElem?_getD, List.getElem?_eq_getElem h]
  exact List.getElem_mem h
theorem PairsAt.below {w w' : World} {v : Value} {l : List (K × K)} (h : PairsAt w v l) (hb : Below w.heap.size w w') : PairsAt w' v l := by
  obtain ⟨p, cap, e, h⟩ := h
  refine ⟨p, cap, e, ?_⟩
  rcases h with h | ⟨g, e2, h⟩
  · exact .inl h
  · exact .inr ⟨g, e2, fun t u hu => cell_then (h t u hu) hb⟩
theorem pairs_cell {w : World} {g : Nat} {l : List (K × K)} (h : ∀ t u, (pcs l)[t]? = some u → w.cell? ⟨g, t, none⟩ = some u) (i : Nat) (hi : i < l.length) (q : Nat) (hq : q < 6) : w.cell? ⟨g, i * 6 + q, none⟩ = (pc (l.getD i pk0.1))[q]? := by
  have h1 := pcs_get l (i * 6 + q) (by omega)
  rw [show (i * 6 + q) / 6 = i by omega, show (i * 6 + q) % 6 = q by omega] at h1
  rw [← h1]
  obtain ⟨u, hu⟩ : ∃ u, (pcs l)[i * 6 + q]? = some u := by
    refine ⟨_, List.getElem?_eq_getElem ?_⟩
    rw [pcs_len]
    omega
  rw [hu]
  exact h _ _ hu
set_option maxHeartbeats 1000000 in
set_option maxRecDepth 100000 in
theorem index_any (v : Value) (l : List (K × K)) (c : K × K) (w : World) (hP : PairsAt w v l) (hl : l.length ≤ 1000) :
    Calls Tryz.prog 31 #[v, .agg (pc c).toArray] w fun e w' => ∃ z : Int, e = .returned (.int .i64 z) ∧ (0 ≤ z ↔ c ∈ l) ∧ Below w.heap.size w w' := by
  obtain ⟨p, cap, rfl, hP⟩ := hP
  rcases hP with rfl | ⟨g, rfl, hP⟩
  · have hB := Lib.hid (below_alloc (Below.refl _ w) (.cells (pc c).toArray 49))
    go_enter Tryz.func31, Tryz.ntmps31
    go_wp2_with fail
    refine wp_loop_rounds 1 ?_
    rw [rounds_succ]
    go_wp2
    go_ret
    exact ⟨-1, rfl, by simp, hB.out⟩
  · have HB := Lib.hid (below_alloc (Below.refl _ w) (.cells (pc c).toArray 49))
    have HR := Lib.hid (Row.new w (pc c).toArray 49)
    have HP := Lib.hid hP
    clear hP
    go_enter Tryz.func31, Tryz.ntmps31
    go_wp2_with fail
    generalize w.alloc (.cells (pc c).toArray 49) = w1 at *
    obtain ⟨gc, hgc⟩ : ∃ gc, gc = w.heap.size := ⟨_, rfl⟩
    rw [← hgc] at HR ⊢
    clear hgc
    go_loopw [8] (fun i wr => ∃ k : Nat, k ≤ l.length ∧ i = .int .i64 k ∧ (∀ j, j < k → l.getD j pk0.1 ≠ c) ∧ Below w1.heap.size w1 wr) (fun i _ => l.length - (intOf i).toNat)
    case atStart => exact ⟨0, by omega, rfl, fun j hj => by omega, Below.refl _ _⟩
    case round =>
      obtain ⟨k, hk, rfl, hno, BB⟩ := hrel
      by_cases hlt : k < l.length
      · have hk1 : (0 : Int) ≤ (k : Int) := by omega
        have hk2 : (k : Int) < (l.length : Int) := by omega
        have R := HR.out.below BB
        have B2 := below_then HB.out BB
        have cw := fun q hq => ((B2.cell (block_lt_of_cell ((pairs_cell HP.out k hlt q hq).trans (List.getElem?_eq_getElem (by rw [pc_len]; exact hq))))).trans (pairs_cell HP.out k hlt q hq))
        generalize hx : l.getD k pk0.1 = x at *
        have HX := Lib.hid hx
        have HNO := Lib.hid hno
        have RG : wr.rangeAt g (k * 6) (pc x) := fun j v hv => by
          have hj : j < 6 := by
            by_cases c : j < 6
            · exact c
            · rw [List.getElem?_eq_none (by rw [pc_len]; omega)] at hv; cases hv
          exact (cw j hj).trans hv
        have RC : wr.rangeAt gc 0 (pc c) := fun j v hv => by
          rw [Nat.zero_add, R.cell j]
          simpa using hv
        clear cw R hx hno
        go_wp2_with fail
        refine region_vals (n := 6) (by kernel_rfl) (fun w' => Below wr.heap.size wr w') (fun i => (#[Value.agg (pc c).toArray, .slice (some ⟨g, 0, none⟩) l.length cap, .int .i64 (k : Int), .pointer (some ⟨g, k * 6, none⟩), .agg (pc x).toArray, .bool (decide (c = x))] : Array Value).getD i undef)
          ⟨#[Value.slice (some { block := g, off := 0 }) l.length cap, Value.agg (pc c).toArray, undef, Value.pointer (some { block := gc, off := 0 }), u4, Value.int IntKind.i64 ↑k, Value.slice (some { block := g, off := 0 }) l.length cap, Value.int IntKind.i64 ↑l.length, Value.int IntKind.i64 ↑k, Value.bool true, Value.int IntKind.i64 ↑k, Value.agg (pc c).toArray, .slice (some ⟨g, 0, none⟩) l.length cap, .int .i64 (k : Int), .pointer (some ⟨g, k * 6, none⟩), .agg (pc x).toArray, .bool (decide (c = x)), u17, u18], []⟩ (by kernel_rfl) (by kernel_rfl) (below_dr (Below.refl _ _)) rfl rfl ?_ ?_
        · intro i o ho wx S
          rcases i with _ | _ | _ | _ | _ | _ | i
          all_goals (first | (simp at ho; done) | (obtain rfl := Option.some.inj ho))
          · exact yv_load rfl S _ _ rfl gc 0 rfl (fun j v hv => cell_then (RC j v hv) S) Tryz.underlying49 rfl (by kernel_rfl)
          · exact yv_val rfl S (by go_simp)
          · exact yv_val rfl S (by go_simp)
          · exact yv_val rfl S (by go_simp)
          · exact yv_load rfl S _ _ rfl g (k * 6) rfl (fun j v hv => cell_then (RG j v hv) S) Tryz.underlying49 rfl (by kernel_rfl)
          · have he := eq_pair c x wx
            exact yv_val rfl S (by go_simp)
        · intro wy S
          by_cases hcx : c = x
          · rw [decide_eq_true hcx]
            go_wp2
            go_ret
            exact ⟨k, rfl, ⟨fun _ => by rw [hcx, ← HX.out]; exact getD_mem hlt, fun _ => by omega⟩, below_then B2 S⟩
          · rw [decide_eq_false hcx]
            have ev : IntKind.i64.wrap ((k : Int) + 1) = ((k + 1 : Nat) : Int) := by rw [IntKind.wrap_i64]; omega
            go_wp2
            refine ⟨⟨k + 1, by omega, by push_cast; rfl, fun j hj => ?_, below_then BB S⟩, by simp [intOf]; omega⟩
            by_cases e : j = k
            · rw [e, HX.out]
              exact fun e2 => hcx e2.symm
            · exact HNO.out j (by omega)
      · obtain rfl : k = l.length := by omega
        have hk0 : ¬ ((l.length : Int) < (l.length : Int)) := by omega
        have HNO := Lib.hid hno
        clear hno
        go_wp2_with fail
        go_ret
        refine ⟨-1, rfl, ⟨fun h => by omega, fun h => ?_⟩, below_then HB.out BB⟩
        obtain ⟨j, hj, e⟩ := List.getElem_of_mem h
        refine absurd ?_ (HNO.out j hj)
        rw [List.getD_eq_getElem?_getD, List.getElem?_eq_getElem hj]
        exact e
theorem contains_any (v : Value) (l : List (K × K)) (c : K × K) (w : World) (hP : PairsAt w v l) (hl : l.length ≤ 1000) :
    Calls Tryz.prog 18 #[v, .agg (pc c).toArray] w fun e w' => e = .returned (.bool (decide (c ∈ l))) ∧ Below w.heap.size w w' := by
  have e : (pc c).toArray = #[.int .u32 (c.1.a : Int), .int .u16 (c.1.e : Int), .int .u16 (c.1.p : Int), .int .u32 (c.2.a : Int), .int .u16 (c.2.e : Int), .int .u16 (c.2.p : Int)] := rfl
  have HB := Lib.hid (below_alloc (Below.refl _ w) (.cells #[.int .u32 (c.1.a : Int), .int .u16 (c.1.e : Int), .int .u16 (c.1.p : Int), .int .u32 (c.2.a : Int), .int .u16 (c.2.e : Int), .int .u16 (c.2.p : Int)] 49))
  have HI := fun W (hb : Below w.heap.size w W) => index_any v l c W (hP.below hb) hl
  rw [e] at HI ⊢
  have HI := Lib.hid HI
  clear hP e
  go_enter Tryz.func18, Tryz.ntmps18
  go_wp2_with fail
  refine (HI.out _ HB.out).mono ?_
  rintro _ w1 ⟨z, rfl, hz, hb⟩
  have HBB := Lib.hid (below_then HB.out hb)
  have HZ := Lib.hid hz
  clear hz hb HI
  go_wp2_with fail
  go_ret
  refine ⟨?_, HBB.out⟩
  show Ending.returned (.bool (decide (0 ≤ z))) = .returned (.bool (decide (c ∈ l)))
  rw [decide_eq_decide.2 HZ.out]
end Go.Proofs.YtahagfdjpldblaaGreatDoor
