/-
  key.Sums: Add. (printed by sums_gen.py)
-/
import Derived.Test.YtahagfdjpldblaaGreatDoorSortedK
import Derived.Test.YtahagfdjpldblaaGreatDoorRegV
import Derived.Test.YtahagfdjpldblaaGreatDoorWide
namespace Go.Proofs.YtahagfdjpldblaaGreatDoor
open Go.RowKit Ky
open Go.Maps (Keyed)
set_option linter.unusedVariables false
set_option linter.unusedSimpArgs false

theorem grown_below {w w' : World} {row : Option Nat} (h : Below w.heap.size w w') : w.grownBy w' row := ⟨h.os, h.tape, h.output, h.size, fun k hk _ => h.block k hk⟩
theorem below_grown {w w0 w' : World} {b : Nat} (h0 : Below w.heap.size w w0) (hb : w.heap.size ≤ b) (h : w0.grownBy w' (some b)) : Below w.heap.size w w' :=
  h0.trans ⟨h.os, h.tape, h.output, h.size, fun k hk => h.block k (Nat.lt_of_lt_of_le hk h0.size) (by intro e; injection e with e; omega)⟩
theorem zero_wide (w : World) : (zeroValue 44).run Tryz.prog w = .ok (wval 0) w := by kernel_rfl
set_option maxRecDepth 100000 in
set_option maxHeartbeats 4000000 in
theorem sumsAdd_any (b n : Nat) (G : K → Option Int) (x : K) (hx : x.ok) (z : Int) (hz : Wd.I64 z) (hn : n ≤ 1000) (w : World) (hM : MapIs w Tryz.prog 29 K.val wval b n G) :
    Calls Tryz.prog 7 #[.map (some b), x.val, .int .i64 z] w fun e w' => e = .returned (.tuple #[]) ∧ MapIs w' Tryz.prog 29 K.val wval b (n + 1) (fun d => if d = x then some ((G x).getD 0 + z) else G d) ∧ w.grownBy w' (some b) := by
  obtain ⟨kl, hkey⟩ := key_of x hx
  have hb := hM.lt
  have RX := Row.new w #[.int .u32 (x.a : Int), .int .u16 (x.e : Int), .int .u16 (x.p : Int)] 29
  have hg0 : w.grownBy (w.alloc (.cells #[.int .u32 (x.a : Int), .int .u16 (x.e : Int), .int .u16 (x.p : Int)] 29)) (some b) := World.grownBy_alloc _ _ _
  have hM2 := hM.below (below_alloc (Below.refl _ w) (.cells #[.int .u32 (x.a : Int), .int .u16 (x.e : Int), .int .u16 (x.p : Int)] 29))
  obtain ⟨v0, hv0⟩ : ∃ v0, v0 = (G x).getD 0 := ⟨_, rfl⟩
  have hval : getV wval (wval 0) (G x) = wval v0 := by
    rw [hv0]
    cases h : G x <;> rfl
  rw [← hv0]
  have HL : ∀ W : World, MapIs W Tryz.prog 29 K.val wval b n G → (Instr.lookup 25 (.map (some b)) (.agg #[.int .u32 (x.a : Int), .int .u16 (x.e : Int), .int .u16 (x.p : Int)]) false).run Tryz.prog W = .ok (.agg #[.int .i64 (Wd.hi (v0)), .int .u64 (Wd.lo (v0))]) W := fun W h => by
    have h := MapIs.look (enc := K.val) (vl := wval) (G := G) (n := n) (e := 44) (t := 25) h (Keyed.of_law lawKey) Tryz.underlying25 val_inj (zero_wide W) x hkey
    rw [hval] at h
    exact h
  have HU : ∀ W : World, MapIs W Tryz.prog 29 K.val wval b n G → ∃ w', (Instr.mapUpdate 25 (.map (some b)) (.agg #[.int .u32 (x.a : Int), .int .u16 (x.e : Int), .int .u16 (x.p : Int)]) (.agg #[.int .i64 (Wd.hi (v0 + z)), .int .u64 (Wd.lo (v0 + z))])).run Tryz.prog W = .ok () w' ∧ MapIs w' Tryz.prog 29 K.val wval b (n + 1) (fun d => if d = x then some (v0 + z) else G d) ∧ W.grownBy w' (some b) := fun W h =>
    MapIs.store h (Keyed.of_law lawKey) Tryz.underlying25 val_inj (by unfold maxLen; omega) x (v0 + z) hkey
  have HG0 := Lib.hid hg0
  have HM2 := Lib.hid hM2
  have HZ := Lib.hid hz
  clear hM hkey hval hz hn hx hg0 hM2 hv0
  have hne : ∀ W : World, (Go.binOp BinOp.neq 25 (.map (some b)) (.map none)).run Tryz.prog W = .ok (.bool true) W := fun W => by kernel_rfl
  unfold K.val
  go_enter Tryz.func7, Tryz.ntmps7
  go_wp2_with fail
  obtain ⟨gx, hgx⟩ : ∃ g, g = w.heap.size := ⟨_, rfl⟩
  rw [← hgx] at RX ⊢
  generalize w.alloc (.cells #[.int .u32 (x.a : Int), .int .u16 (x.e : Int), .int .u16 (x.p : Int)] 29) = w2 at *
  have hbx : b ≠ gx := by omega
  clear hgx hb hne
  have LX : ∀ w', w2.grownBy w' (some b) → w'.rangeAt gx 0 [.int .u32 (x.a : Int), .int .u16 (x.e : Int), .int .u16 (x.p : Int)] := fun w' h j v hv => by
    rw [Nat.zero_add, Row.cell (show Row w' gx _ _ from (h.block gx RX.lt (by intro e; injection e with e; omega)).trans RX) j]
    simpa using hv
  refine region_lits1 (n := 9) 8 4 (by kernel_rfl) (fun c' w' => w2.grownBy w' (some b) ∧ MapIs w' Tryz.prog 29 K.val wval b (if c' then n + 1 else n) (if c' then (fun d => if d = x then some (v0 + z) else G d) else G)) (fun i => (#[.map (some b), .agg #[.int .u32 (x.a : Int), .int .u16 (x.e : Int), .int .u16 (x.p : Int)], .map (some b), .agg #[.int .u32 (x.a : Int), .int .u16 (x.e : Int), .int .u16 (x.p : Int)], .agg #[.int .i64 (Wd.hi (v0)), .int .u64 (Wd.lo (v0))], .int .i64 z, .agg #[.int .i64 (Wd.hi (z)), .int .u64 (Wd.lo (z))], .agg #[.int .i64 (Wd.hi (v0 + z)), .int .u64 (Wd.lo (v0 + z))], undef] : Array Value).getD i undef) (by kernel_rfl) (by kernel_rfl) ⟨⟨rfl, rfl, rfl, Nat.le_refl _, fun _ _ _ => rfl⟩, HM2.out⟩ rfl ?_
  intro F hF
  simp only [fill, if_true, dstAt] at hF
  simp [Act.put] at hF
  subst hF
  refine ⟨?_, ?_⟩
  · intro i o ho c wx hcm S
    rcases i with _ | _ | _ | _ | _ | _ | _ | _ | _ | i
    all_goals (first | (simp at ho; done) | (obtain rfl := Option.some.inj ho))
    · exact yv_val rfl S (by go_simp)
    · exact yv_load rfl S _ _ rfl gx 0 rfl (LX _ S.1) Tryz.underlying29 rfl (by kernel_rfl)
    · exact yv_val rfl S (by go_simp)
    · exact yv_load rfl S _ _ rfl gx 0 rfl (LX _ S.1) Tryz.underlying29 rfl (by kernel_rfl)
    · obtain rfl : c = false := hcm (by kernel_rfl)
      have hl := HL wx S.2
      exact yv_val rfl S (by go_simp)
    · exact yv_val rfl S (by go_simp)
    · exact yv_call rfl rfl Tryz.func25 (by kernel_rfl) rfl #[.int .i64 z] (by go_simp) ((of_any z HZ.out wx).mono (by rintro _ wy ⟨rfl, hb⟩; exact ⟨rfl, S.1.trans (grown_below hb), S.2.below hb⟩))
    · exact yv_call rfl rfl Tryz.func24 (by kernel_rfl) rfl #[.agg #[.int .i64 (Wd.hi (v0)), .int .u64 (Wd.lo (v0))], .agg #[.int .i64 (Wd.hi (z)), .int .u64 (Wd.lo (z))]] (by go_simp) ((add_any v0 z wx).mono (by rintro _ wy ⟨rfl, hb⟩; exact ⟨rfl, S.1.trans (grown_below hb), S.2.below hb⟩))
    · obtain rfl : c = false := hcm (by kernel_rfl)
      obtain ⟨w', hr, hM', hg⟩ := HU wx S.2
      exact yv_skip rfl ⟨S.1.trans hg, hM'⟩ (by go_simp)
  · intro wy S
    simp only [if_true] at S
    have hz := S.2
    have hj := HG0.out.trans S.1
    clear LX HL HU S
    go_wp2
    go_end0
    exact ⟨rfl, hz, hj⟩
theorem sumsAdd_none (x : K) (z : Int) (w : World) : Calls Tryz.prog 7 #[.map none, x.val, .int .i64 z] w fun e w' => e = .returned (.tuple #[]) ∧ Below w.heap.size w w' := by
  have hne : ∀ W : World, (Go.binOp BinOp.neq 25 (.map none) (.map none)).run Tryz.prog W = .ok (.bool false) W := fun W => by kernel_rfl
  unfold K.val
  go_enter Tryz.func7, Tryz.ntmps7
  go_wp2
  go_end0
  exact ⟨rfl, below_alloc (Below.refl _ w) _⟩
end Go.Proofs.YtahagfdjpldblaaGreatDoor
