/-
  Own texts, several in one (QuietS, Sums, ContainsK).
-/
import Derived.Test.YtahagfdjpldblaaGreatDoorMrg7
import Derived.BigQuiet
import Derived.Test.YtahagfdjpldblaaGreatDoorMrg14
import Derived.Test.YtahagfdjpldblaaGreatDoorMrg15
import Derived.Test.YtahagfdjpldblaaGreatDoorMrg2
import Derived.Test.YtahagfdjpldblaaGreatDoorMrg16
namespace Go.Proofs.YtahagfdjpldblaaGreatDoor
open Go.RowKit
set_option linter.unusedVariables false
set_option linter.unusedSimpArgs false

/-- a world that meets S -/
structure QW (S : World → Prop) where
  w : World
  h : S w
theorem region_quietS {P : Program} {id : Nat} {Q : Exit → Act → World → Prop} {a : Act} {w : World} {l : List Oper} (S : World → Prop) (hm : P.follows .mixedOrders = true) (hB : Region.lexB .any l.toArray = true) (hS : S w.drew)
    (h : Nonempty (QW S) → wpQuiet P l.toArray (fun w' => ∃ n : QW S, w' = n.w) (fun a' => ∀ w', (∃ n : QW S, w' = n.w) → Q .normal a' w') l a) : (Code.region id l.toArray true).wp P Q a w :=
  wp_region_quiet (C := fun w' => ∃ n : QW S, w' = n.w) hm hB ⟨⟨_, hS⟩, rfl⟩ (by simpa using h ⟨⟨_, hS⟩⟩)
/-- a callee's contract in such a world -/
theorem Calls.quietS {P : Program} {f : FuncId} {args : Array Value} {S : World → Prop} {n : QW S} {v : Value}
    (h : Calls P f args n.w fun e w' => e = .returned v ∧ S w') : Calls P f args n.w fun e w'' => e = .returned v ∧ ∃ m : QW S, w'' = m.w :=
  h.mono fun _ w'' ⟨he, hm⟩ => ⟨he, ⟨w'', hm⟩, rfl⟩
end Go.Proofs.YtahagfdjpldblaaGreatDoor

namespace Go.Proofs.YtahagfdjpldblaaGreatDoor
open Go.RowKit Ky
open Go.Maps (Keyed)
set_option linter.unusedVariables false
set_option linter.unusedSimpArgs false

theorem grown_below {w w' : World} {row : Option Nat} (h : Below w.heap.size w w') : w.grownBy w' row := ⟨h.os, h.tape, h.output, h.size, fun k hk _ => h.block k hk⟩
theorem below_grown {w w0 w' : World} {b : Nat} (h0 : Below w.heap.size w w0) (hb : w.heap.size ≤ b) (h : w0.grownBy w' (some b)) : Below w.heap.size w w' :=
  h0.trans ⟨h.os, h.tape, h.output, h.size, fun k hk => h.block k (Nat.lt_of_lt_of_le hk h0.size) (by intro e; injection e with e; omega)⟩
theorem zero_wide (w : World) : (zeroValue 44).run Tryz.prog w = .ok (wval 0) w := by kernel_rfl
set_option maxRecDepth 100000 in
set_option maxHeartbeats 4000000 in
theorem sumsAdd_any (b n : Nat) (G : K → Option Int) (x : K) (hx : x.ok) (z : Int) (hz : Wd.I64 z) (hn : n ≤ 1000) (w : World) (hM : MapIs w Tryz.prog 29 K.val wval b n G) :
    Calls Tryz.prog 7 #[.map (some b), x.val, .int .i64 z] w fun e w' => e = .returned (.tuple #[]) ∧ MapIs w' Tryz.prog 29 K.val wval b (n + 1) (fun d => if d = x then some ((G x).getD 0 + z) else G d) ∧ w.grownBy w' (some b) := by
  obtain ⟨kl, hkey⟩ := key_of x hx
  have hb := hM.lt
  have RX := Row.new w #[.int .u32 (x.a : Int), .int .u16 (x.e : Int), .int .u16 (x.p : Int)] 29
  have hg0 : w.grownBy (w.alloc (.cells #[.int .u32 (x.a : Int), .int .u16 (x.e : Int), .int .u16 (x.p : Int)] 29)) (some b) := World.grownBy_alloc _ _ _
  have hM2 := hM.below (below_alloc (Below.refl _ w) (.cells #[.int .u32 (x.a : Int), .int .u16 (x.e : Int), .int .u16 (x.p : Int)] 29))
  obtain ⟨v0, hv0⟩ : ∃ v0, v0 = (G x).getD 0 := ⟨_, rfl⟩
  have hval : getV wval (wval 0) (G x) = wval v0 := by
    rw [hv0]
    cases h : G x <;> rfl
  rw [← hv0]
  have HL : ∀ W : World, MapIs W Tryz.prog 29 K.val wval b n G → (Instr.lookup 25 (.map (some b)) (.agg #[.int .u32 (x.a : Int), .int .u16 (x.e : Int), .int .u16 (x.p : Int)]) false).run Tryz.prog W = .ok (.agg #[.int .i64 (Wd.hi (v0)), .int .u64 (Wd.lo (v0))]) W := fun W h => by
    have h := MapIs.look (enc := K.val) (vl := wval) (G := G) (n := n) (e := 44) (t := 25) h (Keyed.of_law lawKey) Tryz.underlying25 val_inj (zero_wide W) x hkey
    rw [hval] at h
    exact h
  have HU : ∀ W : World, MapIs W Tryz.prog 29 K.val wval b n G → ∃ w', (Instr.mapUpdate 25 (.map (some b)) (.agg #[.int .u32 (x.a : Int), .int .u16 (x.e : Int), .int .u16 (x.p : Int)]) (.agg #[.int .i64 (Wd.hi (v0 + z)), .int .u64 (Wd.lo (v0 + z))])).run Tryz.prog W = .ok () w' ∧ MapIs w' Tryz.prog 29 K.val wval b (n + 1) (fun d => if d = x then some (v0 + z) else G d) ∧ W.grownBy w' (some b) := fun W h =>
    MapIs.store h (Keyed.of_law lawKey) Tryz.underlying25 val_inj (by unfold maxLen; omega) x (v0 + z) hkey
  have HG0 := Lib.hid hg0
  have HM2 := Lib.hid hM2
  have HZ := Lib.hid hz
  clear hM hkey hval hz hn hx hg0 hM2 hv0
  have hne : ∀ W : World, (Go.binOp BinOp.neq 25 (.map (some b)) (.map none)).run Tryz.prog W = .ok (.bool true) W := fun W => by kernel_rfl
  unfold K.val
  go_enter Tryz.func7, Tryz.ntmps7
  go_wp2_with fail
  obtain ⟨gx, hgx⟩ : ∃ g, g = w.heap.size := ⟨_, rfl⟩
  rw [← hgx] at RX ⊢
  generalize w.alloc (.cells #[.int .u32 (x.a : Int), .int .u16 (x.e : Int), .int .u16 (x.p : Int)] 29) = w2 at *
  have hbx : b ≠ gx := by omega
  clear hgx hb hne
  have LX : ∀ w', w2.grownBy w' (some b) → w'.rangeAt gx 0 [.int .u32 (x.a : Int), .int .u16 (x.e : Int), .int .u16 (x.p : Int)] := fun w' h j v hv => by
    rw [Nat.zero_add, Row.cell (show Row w' gx _ _ from (h.block gx RX.lt (by intro e; injection e with e; omega)).trans RX) j]
    simpa using hv
  refine region_lits1 (n := 9) 8 4 (by kernel_rfl) (fun c' w' => w2.grownBy w' (some b) ∧ MapIs w' Tryz.prog 29 K.val wval b (if c' then n + 1 else n) (if c' then (fun d => if d = x then some (v0 + z) else G d) else G)) (fun i => (#[.map (some b), .agg #[.int .u32 (x.a : Int), .int .u16 (x.e : Int), .int .u16 (x.p : Int)], .map (some b), .agg #[.int .u32 (x.a : Int), .int .u16 (x.e : Int), .int .u16 (x.p : Int)], .agg #[.int .i64 (Wd.hi (v0)), .int .u64 (Wd.lo (v0))], .int .i64 z, .agg #[.int .i64 (Wd.hi (z)), .int .u64 (Wd.lo (z))], .agg #[.int .i64 (Wd.hi (v0 + z)), .int .u64 (Wd.lo (v0 + z))], undef] : Array Value).getD i undef) (by kernel_rfl) (by kernel_rfl) ⟨⟨rfl, rfl, rfl, Nat.le_refl _, fun _ _ _ => rfl⟩, HM2.out⟩ rfl ?_
  intro F hF
  simp only [fill, if_true, dstAt] at hF
  simp [Act.put] at hF
  subst hF
  refine ⟨?_, ?_⟩
  · intro i o ho c wx hcm S
    rcases i with _ | _ | _ | _ | _ | _ | _ | _ | _ | i
    all_goals (first | (simp at ho; done) | (obtain rfl := Option.some.inj ho))
    · exact yv_val rfl S (by go_simp)
    · exact yv_load rfl S _ _ rfl gx 0 rfl (LX _ S.1) Tryz.underlying29 rfl (by kernel_rfl)
    · exact yv_val rfl S (by go_simp)
    · exact yv_load rfl S _ _ rfl gx 0 rfl (LX _ S.1) Tryz.underlying29 rfl (by kernel_rfl)
    · obtain rfl : c = false := hcm (by kernel_rfl)
      have hl := HL wx S.2
      exact yv_val rfl S (by go_simp)
    · exact yv_val rfl S (by go_simp)
    · exact yv_call rfl rfl Tryz.func25 (by kernel_rfl) rfl #[.int .i64 z] (by go_simp) ((of_any z HZ.out wx).mono (by rintro _ wy ⟨rfl, hb⟩; exact ⟨rfl, S.1.trans (grown_below hb), S.2.below hb⟩))
    · exact yv_call rfl rfl Tryz.func24 (by kernel_rfl) rfl #[.agg #[.int .i64 (Wd.hi (v0)), .int .u64 (Wd.lo (v0))], .agg #[.int .i64 (Wd.hi (z)), .int .u64 (Wd.lo (z))]] (by go_simp) ((add_any v0 z wx).mono (by rintro _ wy ⟨rfl, hb⟩; exact ⟨rfl, S.1.trans (grown_below hb), S.2.below hb⟩))
    · obtain rfl : c = false := hcm (by kernel_rfl)
      obtain ⟨w', hr, hM', hg⟩ := HU wx S.2
      exact yv_skip rfl ⟨S.1.trans hg, hM'⟩ (by go_simp)
  · intro wy S
    simp only [if_true] at S
    have hz := S.2
    have hj := HG0.out.trans S.1
    clear LX HL HU S
    go_wp2
    go_end0
    exact ⟨rfl, hz, hj⟩
theorem sumsAdd_none (x : K) (z : Int) (w : World) : Calls Tryz.prog 7 #[.map none, x.val, .int .i64 z] w fun e w' => e = .returned (.tuple #[]) ∧ Below w.heap.size w w' := by
  have hne : ∀ W : World, (Go.binOp BinOp.neq 25 (.map none) (.map none)).run Tryz.prog W = .ok (.bool false) W := fun W => by kernel_rfl
  unfold K.val
  go_enter Tryz.func7, Tryz.ntmps7
  go_wp2
  go_end0
  exact ⟨rfl, below_alloc (Below.refl _ w) _⟩
end Go.Proofs.YtahagfdjpldblaaGreatDoor

namespace Go.Proofs.YtahagfdjpldblaaGreatDoor
open Go.RowKit Ky
set_option linter.unusedVariables false
set_option linter.unusedSimpArgs false

theorem KeysAt.below {w w' : World} {v : Value} {l : List K} (h : KeysAt w v l) (hb : Below w.heap.size w w') : KeysAt w' v l := by
  obtain ⟨p, cap, e, h⟩ := h
  refine ⟨p, cap, e, ?_⟩
  rcases h with h | ⟨g, e2, h⟩
  · exact .inl h
  · exact .inr ⟨g, e2, fun t u hu => cell_then (h t u hu) hb⟩
theorem keys_cell {w : World} {g : Nat} {l : List K} (h : ∀ t u, (kcs l)[t]? = some u → w.cell? ⟨g, t, none⟩ = some u) (i : Nat) (hi : i < l.length) (q : Nat) (hq : q < 3) : w.cell? ⟨g, i * 3 + q, none⟩ = (kc (l.getD i kk0.1))[q]? := by
  have h1 := kcs_get l (i * 3 + q) (by omega)
  rw [show (i * 3 + q) / 3 = i by omega, show (i * 3 + q) % 3 = q by omega] at h1
  rw [← h1]
  obtain ⟨u, hu⟩ : ∃ u, (kcs l)[i * 3 + q]? = some u := by
    refine ⟨_, List.getElem?_eq_getElem ?_⟩
    rw [kcs_len]
    omega
  rw [hu]
  exact h _ _ hu
set_option maxHeartbeats 1000000 in
set_option maxRecDepth 100000 in
theorem indexK_any (v : Value) (l : List K) (c : K) (w : World) (hP : KeysAt w v l) (hl : l.length ≤ 1000) :
    Calls Tryz.prog 28 #[v, .agg (kc c).toArray] w fun e w' => ∃ z : Int, e = .returned (.int .i64 z) ∧ (0 ≤ z ↔ c ∈ l) ∧ Below w.heap.size w w' := by
  obtain ⟨p, cap, rfl, hP⟩ := hP
  rcases hP with rfl | ⟨g, rfl, hP⟩
  · have hB := Lib.hid (below_alloc (Below.refl _ w) (.cells (kc c).toArray 29))
    go_enter Tryz.func28, Tryz.ntmps28
    go_wp2_with fail
    refine wp_loop_rounds 1 ?_
    rw [rounds_succ]
    go_wp2
    go_ret
    exact ⟨-1, rfl, by simp, hB.out⟩
  · have HB := Lib.hid (below_alloc (Below.refl _ w) (.cells (kc c).toArray 29))
    have HR := Lib.hid (Row.new w (kc c).toArray 29)
    have HP := Lib.hid hP
    clear hP
    go_enter Tryz.func28, Tryz.ntmps28
    go_wp2_with fail
    generalize w.alloc (.cells (kc c).toArray 29) = w1 at *
    obtain ⟨gc, hgc⟩ : ∃ gc, gc = w.heap.size := ⟨_, rfl⟩
    rw [← hgc] at HR ⊢
    clear hgc
    go_loopw [8] (fun i wr => ∃ k : Nat, k ≤ l.length ∧ i = .int .i64 k ∧ (∀ j, j < k → l.getD j kk0.1 ≠ c) ∧ Below w1.heap.size w1 wr) (fun i _ => l.length - (intOf i).toNat)
    case atStart => exact ⟨0, by omega, rfl, fun j hj => by omega, Below.refl _ _⟩
    case round =>
      obtain ⟨k, hk, rfl, hno, BB⟩ := hrel
      by_cases hlt : k < l.length
      · have hk1 : (0 : Int) ≤ (k : Int) := by omega
        have hk2 : (k : Int) < (l.length : Int) := by omega
        have R := HR.out.below BB
        have B2 := below_then HB.out BB
        have cw := fun q hq => ((B2.cell (block_lt_of_cell ((keys_cell HP.out k hlt q hq).trans (List.getElem?_eq_getElem (by rw [kc_len]; exact hq))))).trans (keys_cell HP.out k hlt q hq))
        generalize hx : l.getD k kk0.1 = x at *
        have HX := Lib.hid hx
        have HNO := Lib.hid hno
        have RG : wr.rangeAt g (k * 3) (kc x) := fun j v hv => by
          have hj : j < 3 := by
            by_cases c : j < 3
            · exact c
            · rw [List.getElem?_eq_none (by rw [kc_len]; omega)] at hv; cases hv
          exact (cw j hj).trans hv
        have RC : wr.rangeAt gc 0 (kc c) := fun j v hv => by
          rw [Nat.zero_add, R.cell j]
          simpa using hv
        clear cw R hx hno
        go_wp2_with fail
        refine region_vals (n := 6) (by kernel_rfl) (fun w' => Below wr.heap.size wr w') (fun i => (#[Value.agg (kc c).toArray, .slice (some ⟨g, 0, none⟩) l.length cap, .int .i64 (k : Int), .pointer (some ⟨g, k * 3, none⟩), .agg (kc x).toArray, .bool (decide (c = x))] : Array Value).getD i undef)
          ⟨#[Value.slice (some { block := g, off := 0 }) l.length cap, Value.agg (kc c).toArray, undef, Value.pointer (some { block := gc, off := 0 }), u4, Value.int IntKind.i64 ↑k, Value.slice (some { block := g, off := 0 }) l.length cap, Value.int IntKind.i64 ↑l.length, Value.int IntKind.i64 ↑k, Value.bool true, Value.int IntKind.i64 ↑k, Value.agg (kc c).toArray, .slice (some ⟨g, 0, none⟩) l.length cap, .int .i64 (k : Int), .pointer (some ⟨g, k * 3, none⟩), .agg (kc x).toArray, .bool (decide (c = x)), u17, u18], []⟩ (by kernel_rfl) (by kernel_rfl) (below_dr (Below.refl _ _)) rfl rfl ?_ ?_
        · intro i o ho wx S
          rcases i with _ | _ | _ | _ | _ | _ | i
          all_goals (first | (simp at ho; done) | (obtain rfl := Option.some.inj ho))
          · exact yv_load rfl S _ _ rfl gc 0 rfl (fun j v hv => cell_then (RC j v hv) S) Tryz.underlying29 rfl (by kernel_rfl)
          · exact yv_val rfl S (by go_simp)
          · exact yv_val rfl S (by go_simp)
          · exact yv_val rfl S (by go_simp)
          · exact yv_load rfl S _ _ rfl g (k * 3) rfl (fun j v hv => cell_then (RG j v hv) S) Tryz.underlying29 rfl (by kernel_rfl)
          · exact yv_val rfl S (eql_key c x rfl rfl rfl rfl wx)
        · intro wy S
          by_cases hcx : c = x
          · rw [decide_eq_true hcx]
            go_wp2
            go_ret
            exact ⟨k, rfl, ⟨fun _ => by rw [hcx, ← HX.out]; exact getD_mem hlt, fun _ => by omega⟩, below_then B2 S⟩
          · rw [decide_eq_false hcx]
            have ev : IntKind.i64.wrap ((k : Int) + 1) = ((k + 1 : Nat) : Int) := by rw [IntKind.wrap_i64]; omega
            go_wp2
            refine ⟨⟨k + 1, by omega, by push_cast; rfl, fun j hj => ?_, below_then BB S⟩, by simp [intOf]; omega⟩
            by_cases e : j = k
            · rw [e, HX.out]
              exact fun e2 => hcx e2.symm
            · exact HNO.out j (by omega)
      · obtain rfl : k = l.length := by omega
        have hk0 : ¬ ((l.length : Int) < (l.length : Int)) := by omega
        have HNO := Lib.hid hno
        clear hno
        go_wp2_with fail
        go_ret
        refine ⟨-1, rfl, ⟨fun h => by omega, fun h => ?_⟩, below_then HB.out BB⟩
        obtain ⟨j, hj, e⟩ := List.getElem_of_mem h
        refine absurd ?_ (HNO.out j hj)
        rw [List.getD_eq_getElem?_getD, List.getElem?_eq_getElem hj]
        exact e
theorem containsK_any (v : Value) (l : List K) (c : K) (w : World) (hP : KeysAt w v l) (hl : l.length ≤ 1000) :
    Calls Tryz.prog 14 #[v, .agg (kc c).toArray] w fun e w' => e = .returned (.bool (decide (c ∈ l))) ∧ Below w.heap.size w w' := by
  have e : (kc c).toArray = #[.int .u32 (c.a : Int), .int .u16 (c.e : Int), .int .u16 (c.p : Int)] := rfl
  have HB := Lib.hid (below_alloc (Below.refl _ w) (.cells #[.int .u32 (c.a : Int), .int .u16 (c.e : Int), .int .u16 (c.p : Int)] 29))
  have HI := fun W (hb : Below w.heap.size w W) => indexK_any v l c W (hP.below hb) hl
  rw [e] at HI ⊢
  have HI := Lib.hid HI
  clear hP e
  go_enter Tryz.func14, Tryz.ntmps14
  go_wp2_with fail
  refine (HI.out _ HB.out).mono ?_
  rintro _ w1 ⟨z, rfl, hz, hb⟩
  have HBB := Lib.hid (below_then HB.out hb)
  have HZ := Lib.hid hz
  clear hz hb HI
  go_wp2_with fail
  go_ret
  refine ⟨?_, HBB.out⟩
  show Ending.returned (.bool (decide (0 ≤ z))) = .returned (.bool (decide (c ∈ l)))
  rw [decide_eq_decide.2 HZ.out]
end Go.Proofs.YtahagfdjpldblaaGreatDoor
