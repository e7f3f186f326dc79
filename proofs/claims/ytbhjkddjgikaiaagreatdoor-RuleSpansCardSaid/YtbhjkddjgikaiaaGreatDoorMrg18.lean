/-
  Own texts, several in one (Book10, Chk10, Cal10).
-/
import Derived.Test.YtbhjkddjgikaiaaGreatDoorMrg17
import Derived.Deep.QuietTactic
import Derived.BigQuiet
namespace Go.Proofs.YtbhjkddjgikaiaaGreatDoor
open Go.RowKit
set_option linter.unusedVariables false
set_option linter.unusedSimpArgs false

def zB : Array Value := #[.slice none 0 0, .slice none 0 0, .int .i16 0, .slice none 0 0, .slice none 0 0]
def bkV (c u b : Nat) : Array Value := #[.slice (some ⟨c, 0, none⟩) 1 1, .slice (some ⟨u, 0, none⟩) 1 1, .slice (some ⟨b, 0, none⟩) 1 1, .int .i32 31, .slice none 0 0]
def bk0 : Array Value := #[.slice none 0 0, .slice none 0 0, .slice none 0 0, .int .i32 0, .slice none 0 0]
def Bk (w : World) (c u b : Nat) : Prop := Row w c #[.int .u32 7, .string ⟨#[67, 97, 115, 104]⟩, .int .u8 0, .int .u32 0] 80 ∧ Row w u #[.int .u16 5] 34 ∧ Row w b #[.int .i32 0] 44
theorem Bk.below {w w' : World} {c u b : Nat} (h : Bk w c u b) (hb : Below w.heap.size w w') : Bk w' c u b := ⟨h.1.below hb, h.2.1.below hb, h.2.2.below hb⟩
theorem Bk.stored {w w' : World} {c u b g : Nat} (h : Bk w c u b) (hs : Stored w g w') {cs : Array Value} (hg : Row w g cs 84) : Bk w' c u b := by
  refine ⟨(hs.other c fun e => ?_).trans h.1, (hs.other u fun e => ?_).trans h.2.1, (hs.other b fun e => ?_).trans h.2.2⟩
  · have h := h.1.symm.trans (e ▸ hg); simp at h
  · have h := h.2.1.symm.trans (e ▸ hg); simp at h
  · have h := h.2.2.symm.trans (e ▸ hg); simp at h
set_option maxHeartbeats 1000000 in
theorem make10 (w : World) : Calls Tryz.prog 36 #[.agg zB] w fun e w' => ∃ c u b, e = .returned (.agg (bkV c u b)) ∧ Bk w' c u b ∧ Below w.heap.size w w' := by
  go_enter Tryz.func36, Tryz.ntmps36
  unfold zB
  have RX := Row.new w zB 62
  have RX := RX.alloc (.cells bk0 84)
  have RY := Row.new' (w.alloc (.cells zB 62)) bk0 84 (g := w.heap.size + 1) (by simp)
  have HB := Lib.hid (below_alloc (below_alloc (Below.refl _ w) (.cells zB 62)) (.cells bk0 84))
  unfold zB bk0 at *
  go_wp2_with (first | (refine ev_load (N := 8) rfl rfl 62 _ rfl w.heap.size rfl RX _ Tryz.underlying62 rfl (by kernel_rfl) ?_))
  generalize (w.alloc (.cells #[.slice none 0 0, .slice none 0 0, .int .i16 0, .slice none 0 0, .slice none 0 0] 62)).alloc (.cells #[.slice none 0 0, .slice none 0 0, .slice none 0 0, .int .i32 0, .slice none 0 0] 84) = w0 at *
  refine (frame10 w0).mono ?_
  rintro _ w1 ⟨c, u, b, rfl, RC, RU, RB, hb⟩
  have HK1 := Lib.hid (show Bk w1 c u b from ⟨RC, RU, RB⟩)
  have HB1 := Lib.hid (below_then HB.out hb)
  have RX1 := RX.below hb
  have RY1 := RY.below hb
  obtain ⟨y, hy⟩ : ∃ y, y = w.heap.size + 1 := ⟨_, rfl⟩
  obtain ⟨x, hx⟩ : ∃ x, x = w.heap.size := ⟨_, rfl⟩
  rw [← hy] at RY1 ⊢
  rw [← hx] at RX1 ⊢
  have HY := Lib.hid (And.intro hx hy)
  clear RX RY RC RU RB hb HB hx hy
  have hyl := RY1.lt
  have hxl := RX1.lt
  have HL := Lib.hid (And.intro hyl hxl)
  have HX1 := Lib.hid RX1
  have HY1 := Lib.hid RY1
  clear hyl hxl RX1 RY1
  go_wp2_with (first | (refine ev_alloc (N := 3) rfl rfl 84 rfl #[.slice none 0 0, .slice none 0 0, .slice none 0 0, .int .i32 0, .slice none 0 0] (fun w => by kernel_rfl) ?_; intro g w2 hg RG B2) | (refine ev_store rfl 84 _ _ rfl g (bkV c u b) rfl rfl RG (by unfold bkV; kernel_rfl) rfl (by simp [bkV, Value.oneCell']) rfl ?_; intro w3 RZ S3; have HK3 := Lib.hid ((HK1.out.below B2).stored S3 RG); have hxg : x ≠ g := (by have := HL.out; omega); have hyg : y ≠ g := (by have := HL.out; omega); have HX3 := Lib.hid ((S3.other x hxg).trans (HX1.out.below B2)); have HY3 := Lib.hid ((S3.other y hyg).trans (HY1.out.below B2)); have HBB3 := Lib.hid (S3.below (below_then HB1.out B2) (Nat.le_trans HB1.out.size hg)); have d0 : w3.cell? ⟨g, 2, none⟩ = some (.slice (some ⟨b, 0, none⟩) 1 1) := RZ.cell 2; have d1 : w3.cell? ⟨b, 0, none⟩ = some (.int .i32 0) := HK3.out.2.2.cell 0; have d2 : w3.cell? ⟨x, 4, none⟩ = some (.slice none 0 0) := Row.cell HX3.out 4; have HN := Lib.hid (And.intro hyg hg); clear hxg hyg S3 B2 hg))
  refine wp_loop_rounds 1 ?_
  rw [rounds_succ]
  go_wp2_with (first | (refine ev_load (N := 52) rfl rfl 84 _ rfl g rfl RZ _ Tryz.underlying84 rfl (by unfold bkV; kernel_rfl) ?_) | (refine ev_store rfl 84 _ _ rfl y (bkV c u b) rfl rfl HY3.out (by unfold bkV; kernel_rfl) rfl (by simp [bkV, Value.oneCell']) rfl ?_; intro w4 RZ4 S4))
  exact bodyPost_ret (v := .agg (bkV c u b)) (res_row rfl _ _ RZ4 rfl Tryz.underlying84 rfl (by unfold bkV; kernel_rfl)) rfl ⟨_, _, _, rfl, HK3.out.stored S4 HY3.out, S4.below HBB3.out (by have := HY.out; omega)⟩
end Go.Proofs.YtbhjkddjgikaiaaGreatDoor

namespace Go.Proofs.YtbhjkddjgikaiaaGreatDoor
open Go.RowKit
set_option linter.unusedVariables false
set_option linter.unusedSimpArgs false

theorem days10 (c u b : Nat) (w : World) : Calls Tryz.prog 82 #[.agg (bkV c u b)] w fun e w' => e = .returned (.tuple #[.int .i32 0, .int .i32 0, .bool false]) ∧ Below w.heap.size w w' := by
  have RX := Row.new w (bkV c u b) 84
  have c4 : (w.alloc (.cells (bkV c u b) 84)).cell? ⟨w.heap.size, 4, none⟩ = some (.slice none 0 0) := RX.cell 4
  have HB := Lib.hid (below_alloc (Below.refl _ w) (.cells (bkV c u b) 84))
  clear RX
  unfold bkV at *
  go_enter Tryz.func82, Tryz.ntmps82
  go_wp2_with fail
  exact bodyPost_ret (v := .tuple #[.int .i32 0, .int .i32 0, .bool false]) (by simp [results, Tryz.results82, go_sem]) rfl ⟨rfl, HB.out⟩
theorem code_5 (w : World) : Calls Tryz.prog 138 #[.int .u16 5] w fun e w' => e = .returned (.bool true) ∧ w' = w := by
  go_enter Tryz.func138, Tryz.ntmps138
  go_wp2
  go_ret
  exact ⟨rfl, rfl⟩
theorem ucheck10 (u : Nat) (w : World) (hU : Row w u #[.int .u16 5] 34) : Calls Tryz.prog 86 #[.slice (some ⟨u, 0, none⟩) 1 1] w fun e w' => e = .returned (.int .i64 0) ∧ Below w.heap.size w w' := by
  have c0 : w.cell? ⟨u, 0, none⟩ = some (.int .u16 5) := hU.cell 0
  clear hU
  go_enter Tryz.func86, Tryz.ntmps86
  go_wp2_with fail
  refine wp_loop_rounds 2 ?_
  rw [rounds_succ]
  go_wp2_with (go_at_call 138; refine (code_5 _).mono ?_; rintro _ _ ⟨rfl, rfl⟩)
  rw [rounds_succ]
  go_wp2_with fail
  go_ret
  exact ⟨rfl, Below.refl _ _⟩
theorem acode_7 (w : World) : Calls Tryz.prog 140 #[.int .u32 7] w fun e w' => e = .returned (.bool true) ∧ w' = w := by
  go_enter Tryz.func140, Tryz.ntmps140
  go_wp2
  go_ret
  exact ⟨rfl, rfl⟩
def cashB : ByteArray := ⟨#[67, 97, 115, 104]⟩
set_option maxHeartbeats 1000000 in
theorem name_cash (w : World) : Calls Tryz.prog 39 #[.string ⟨#[67, 97, 115, 104]⟩] w fun e w' => e = .returned (.bool true) ∧ Below w.heap.size w w' := by
  show Calls Tryz.prog 39 #[.string cashB] w fun e w' => e = .returned (.bool true) ∧ Below w.heap.size w w'
  have n0 : ∀ ty, (Instr.next (.pointer (some ⟨w.heap.size, 0, none⟩)) true ty).run Tryz.prog (w.iter cashB 0) = .ok (.tuple #[.bool true, .int .i64 0, .int .i32 67]) (w.iter cashB 1) := fun ty => run_next_ascii w cashB 0 ty (by decide) (by decide)
  have n1 : ∀ ty, (Instr.next (.pointer (some ⟨w.heap.size, 0, none⟩)) true ty).run Tryz.prog (w.iter cashB 1) = .ok (.tuple #[.bool true, .int .i64 1, .int .i32 97]) (w.iter cashB 2) := fun ty => run_next_ascii w cashB 1 ty (by decide) (by decide)
  have n2 : ∀ ty, (Instr.next (.pointer (some ⟨w.heap.size, 0, none⟩)) true ty).run Tryz.prog (w.iter cashB 2) = .ok (.tuple #[.bool true, .int .i64 2, .int .i32 115]) (w.iter cashB 3) := fun ty => run_next_ascii w cashB 2 ty (by decide) (by decide)
  have n3 : ∀ ty, (Instr.next (.pointer (some ⟨w.heap.size, 0, none⟩)) true ty).run Tryz.prog (w.iter cashB 3) = .ok (.tuple #[.bool true, .int .i64 3, .int .i32 104]) (w.iter cashB 4) := fun ty => run_next_ascii w cashB 3 ty (by decide) (by decide)
  have n4 : ∀ ty, (Instr.next (.pointer (some ⟨w.heap.size, 0, none⟩)) true ty).run Tryz.prog (w.iter cashB 4) = .ok (.tuple #[.bool false]) (w.iter cashB 4) := fun ty => run_next_end w cashB 4 ty (by decide)
  have hs : cashB.size = 4 := rfl
  have g0 : ∀ h, (cashB.get 0 h).toNat = 67 := fun _ => rfl
  have g3 : ∀ h, (cashB.get 3 h).toNat = 104 := fun _ => rfl
  have b0 : ∀ h, (cashB[0]'h).toNat = 67 := fun _ => rfl
  have b3 : ∀ h, (cashB[3]'h).toNat = 104 := fun _ => rfl
  go_enter Tryz.func39, Tryz.ntmps39
  go_wp2_with fail
  refine wp_loop_rounds 5 ?_
  rw [rounds_succ]
  go_wp2_with fail
  rw [rounds_succ]
  go_wp2_with fail
  rw [rounds_succ]
  go_wp2_with fail
  rw [rounds_succ]
  go_wp2_with fail
  rw [rounds_succ]
  go_wp2_with fail
  exact bodyPost_ret (v := .bool true) (by simp [results, Tryz.results39, go_sem]) rfl ⟨rfl, below_alloc (Below.refl _ w) _⟩
set_option maxHeartbeats 1000000 in
theorem ccheck10 (c : Nat) (w : World) (hC : Row w c #[.int .u32 7, .string ⟨#[67, 97, 115, 104]⟩, .int .u8 0, .int .u32 0] 80) : Calls Tryz.prog 89 #[.slice (some ⟨c, 0, none⟩) 1 1] w fun e w' => e = .returned (.int .i64 0) ∧ Below w.heap.size w w' := by
  have HC := Lib.hid hC
  have HLT := Lib.hid hC.lt
  clear hC
  go_enter Tryz.func89, Tryz.ntmps89
  go_wp2_with fail
  refine wp_loop_rounds 2 ?_
  rw [rounds_succ]
  go_wp2_with (first | (refine ev_load (N := 18) rfl rfl 80 _ rfl c rfl HC.out _ Tryz.underlying80 rfl (by kernel_rfl) ?_) | (refine ev_alloc (N := 4) rfl rfl 80 rfl #[.int .u32 0, .string ByteArray.empty, .int .u8 0, .int .u32 0] (fun w => by kernel_rfl) ?_; intro g w1 hg RG B1; have HB1 := Lib.hid B1; have HG := Lib.hid hg; have HC1 := Lib.hid (HC.out.below B1); clear B1 hg) | (refine ev_store rfl 80 _ _ rfl g #[.int .u32 7, .string ⟨#[67, 97, 115, 104]⟩, .int .u8 0, .int .u32 0] rfl rfl RG (by kernel_rfl) rfl (by simp [Value.oneCell']) rfl ?_; intro w2 RZ S2; have c0 : w2.cell? ⟨g, 0, none⟩ = some (.int .u32 7) := RZ.cell 0; have c1 : ∀ n, (w2.drewN n).cell? ⟨g, 1, none⟩ = some (.string ⟨#[67, 97, 115, 104]⟩) := fun n => (RZ.drewN n).cell 1; have HZ := Lib.hid RZ; have HB2 := Lib.hid (S2.below HB1.out HG.out); have HC2 := Lib.hid ((S2.other c (by have := HG.out; have := HLT.out; omega)).trans HC1.out); clear RZ S2 RG) | (go_at_call 140; refine (acode_7 _).mono ?_; rintro _ _ ⟨rfl, rfl⟩))
  go_quiet (fail)
  go_wp2_with fail
  refine (name_cash _).mono ?_
  rintro _ w3 ⟨rfl, hb⟩
  have RZ3 := (HZ.out.drewN _).below hb
  have c2 : w3.cell? ⟨g, 2, none⟩ = some (.int .u8 0) := RZ3.cell 2
  have HC3 := Lib.hid (Row.below (Row.drewN HC2.out _) hb)
  have HB3 := Lib.hid (below_then (below_dN HB2.out _) hb)
  clear RZ3 hb
  go_wp2_with fail
  rw [rounds_succ]
  go_wp2_with fail
  refine wp_loop_rounds 2 ?_
  rw [rounds_succ]
  go_wp2_with (first | (refine ev_load (N := 53) rfl rfl 80 _ rfl c rfl HC3.out _ Tryz.underlying80 rfl (by kernel_rfl) ?_) | (refine ev_alloc (N := 6) rfl rfl 80 rfl #[.int .u32 0, .string ByteArray.empty, .int .u8 0, .int .u32 0] (fun w => by kernel_rfl) ?_; intro g2 w4 hg RG B1; have HB4 := Lib.hid (below_then HB3.out B1); have HG4 := Lib.hid (Nat.le_trans HB3.out.size hg); clear B1 hg) | (refine ev_store rfl 80 _ _ rfl g2 #[.int .u32 7, .string ⟨#[67, 97, 115, 104]⟩, .int .u8 0, .int .u32 0] rfl rfl RG (by kernel_rfl) rfl (by simp [Value.oneCell']) rfl ?_; intro w5 RZ S2; have c3 : w5.cell? ⟨g2, 3, none⟩ = some (.int .u32 0) := RZ.cell 3; have HB5 := Lib.hid (S2.below HB4.out HG4.out); clear RZ S2 RG))
  rw [rounds_succ]
  go_wp2_with fail
  exact bodyPost_ret (v := .int .i64 0) (by simp [results, Tryz.results89, go_sem]) rfl ⟨rfl, HB5.out⟩
end Go.Proofs.YtbhjkddjgikaiaaGreatDoor

namespace Go.Proofs.YtbhjkddjgikaiaaGreatDoor
open Go.RowKit
set_option linter.unusedVariables false
set_option linter.unusedSimpArgs false

def renD : Go.Shelf.Ren := ⟨fun | 41 => 139 | n => n, fun | 22 => 43 | 23 => 44 | 4 => 4 | n => n, fun | n => n⟩
theorem laysD : SlLaysE0.n41 Tryz.prog renD := {
  mixed := by kernel_rfl
  f41 := ⟨Tryz.f139.name, by decide, Tryz.func139.trans (congrArg some (by kernel_rfl))⟩
  t4 := Tryz.underlying4
  a4 := Tryz.isAgg4
  z4 := Tryz.sizeOf4
  v4 := Tryz.zeroValue4
  t22 := Tryz.underlying43
  a22 := Tryz.isAgg43
  z22 := Tryz.sizeOf43
  v22 := Tryz.zeroValue43 }
theorem info_day : ∃ i, Tryz.prog.info? 44 = some i ∧ i.zero = some (.int .i32 0) ∧ i.size = 1 ∧ i.bytes = 4 := by
  have h : (Tryz.prog.info? 44).map (fun i => (i.zero, i.size, i.bytes)) = some (some (.int .i32 0), 1, 4) := by kernel_rfl
  obtain ⟨i, hi, h⟩ := Option.map_eq_some_iff.1 h
  simp only [Prod.mk.injEq] at h
  exact ⟨i, hi, h.1, h.2.1, h.2.2⟩
theorem NsAt.cells' {k : IntKind} {w : World} {b off : Nat} {xs : List Int} (h : ∀ i, i < xs.length → w.cell? ⟨b, off + i, none⟩ = some (.int k (xs.getD i 0))) : ∀ j u, (nv k xs)[j]? = some u → w.cell? ⟨b, off + j, none⟩ = some u := by
  intro j u hj
  unfold nv at hj
  rw [List.getElem?_map] at hj
  obtain ⟨z, hz, rfl⟩ := Option.map_eq_some_iff.1 hj
  have hlt : j < xs.length := (List.getElem?_eq_some_iff.1 hz).1
  have := h j hlt
  rwa [List.getD_eq_getElem?_getD, hz] at this
theorem clone_day (b off n c : Nat) (xs : List Int) (w : World) (h : ∀ i, i < xs.length → w.cell? ⟨b, off + i, none⟩ = some (.int .i32 (xs.getD i 0))) (hl : xs.length = n) (hn : n ≤ 100000) :
    Calls Tryz.prog 139 #[.slice (some ⟨b, off, none⟩) n c] w fun e w' => ∃ v, e = .returned v ∧ w'.ownsRow w.heap.size 44 1 v n (nv .i32 xs) ∧ Below w.heap.size w w' := by
  obtain ⟨i, hi, h1, h2, h3⟩ := info_day
  have z : ∀ w, (Go.sizeOf 44).run Tryz.prog w = .ok 1 w := fun w => by kernel_rfl
  refine (AnyE.slices_Clone laysD i (.int .i32 0) 1 4 hi h1 h2 h3 rfl (by omega) z b off n c (nv .i32 xs) w (by rw [nv_len, hl, Nat.mul_one]) (by unfold maxLen; omega) (by omega) (NsAt.cells' h) (nv_one _ _)).mono ?_
  rintro e w' ⟨v, rfl, ho, _, hb⟩
  exact ⟨v, rfl, ho, hb⟩
/-- one day more behind days of one's own -/
theorem append_day (W : World) (B : Nat) (ty : TypeId) (v : Value) (n : Nat) (xs : List Int) (hown : W.ownsRow B 44 1 v n (nv .i32 xs)) (g : Nat) (z : Int) (RG : Row W g #[.int .i32 z] 44) (hn : n ≤ 100000) (hB : B ≤ W.heap.size) :
    ∃ v' w', (Builtin.append_ #[43, 43] ty #[v, .slice (some ⟨g, 0, none⟩) 1 1]).run Tryz.prog W = .ok v' w' ∧ w'.ownsRow B 44 1 v' (n + 1) (nv .i32 (xs ++ [z])) ∧ Below B W w' := by
  obtain ⟨i, hi, h1, h2, h3⟩ := info_day
  obtain ⟨v', w', hr, k2, k3, k4, k5⟩ := run_append_own_at (P := Tryz.prog) W B 43 ty 44 i (.int .i32 0) 1 4 Tryz.underlying43 hi h1 h2 h3 rfl (by omega) v n (nv .i32 xs) hown ⟨g, 0, none⟩ 1 1 [.int .i32 z] rfl (fun j u hj => by
    rcases j with _ | j
    · simp at hj
      subst hj
      rw [show (⟨g, 0, none⟩ : Addr).add 0 = ⟨g, 0, none⟩ from rfl, RG.cell 0]
      rfl
    · simp at hj) (fun u hu => by simp at hu; subst hu; rfl) (by unfold maxLen; omega) (by omega) hB
  refine ⟨v', w', hr, by unfold nv at k2 ⊢; rwa [List.map_append], (Below.refl B W).grown k3 hB ?_⟩
  intro k hk
  rcases hown.2 with ⟨rfl, _⟩ | ⟨g, cap, cur, rfl, hg, _⟩
  · simp [Value.ownBlock] at hk
  · simp [Value.ownBlock] at hk
    omega

def CalI (w0 : World) (x b : Nat) (L : Nat → Bool) (V : Nat → Value) (w' : World) : Prop :=
  Below w0.heap.size w0 w' ∧ (L 0 = true → V 0 = .pointer (some ⟨x, 0, none⟩)) ∧ (L 1 = true → V 1 = .slice (some ⟨b, 0, none⟩) 1 1) ∧ (L 2 = true → L 6 = false → w'.ownsRow w0.heap.size 44 1 (V 2) 1 (nv .i32 [0])) ∧ (L 3 = true → V 3 = .pointer (some ⟨x, 1, none⟩)) ∧ (L 4 = true → V 4 = .int .i32 31) ∧ (L 5 = true → L 6 = false → ∃ g, V 5 = .slice (some ⟨g, 0, none⟩) 1 1 ∧ w0.heap.size ≤ g ∧ Row w' g #[.int .i32 31] 44) ∧ (L 6 = true → w'.ownsRow w0.heap.size 44 1 (V 6) 2 (nv .i32 [0, 31])) ∧ (L 7 = true → L 6 = true ∧ V 7 = V 6)
set_option maxHeartbeats 2000000 in
theorem calcheck10 (b : Nat) (w : World) (hB : Row w b #[.int .i32 0] 44) (hG : Glb5 w) : Calls Tryz.prog 87 #[.agg #[.slice (some ⟨b, 0, none⟩) 1 1, .int .i32 31]] w fun e w' => e = .returned (.int .i64 0) ∧ Below w.heap.size w w' := by
  have RX := Row.new w #[.slice (some ⟨b, 0, none⟩) 1 1, .int .i32 31] 46
  have BW := below_alloc (Below.refl _ w) (.cells #[.slice (some ⟨b, 0, none⟩) 1 1, .int .i32 31] 46)
  have HBW := Lib.hid BW
  have HG := Lib.hid (hG.below BW)
  have RB := hB.below BW
  have x0 : (w.alloc (.cells #[.slice (some ⟨b, 0, none⟩) 1 1, .int .i32 31] 46)).cell? ⟨w.heap.size, 0, none⟩ = some (.slice (some ⟨b, 0, none⟩) 1 1) := RX.cell 0
  clear hB hG BW
  go_enter Tryz.func87, Tryz.ntmps87
  go_wp2_with fail
  generalize w.alloc (.cells #[.slice (some ⟨b, 0, none⟩) 1 1, .int .i32 31] 46) = w0 at *
  have HXL := Lib.hid (Nat.le_of_lt RX.lt)
  obtain ⟨x, hxe⟩ : ∃ x, x = w.heap.size := ⟨_, rfl⟩
  rw [← hxe] at RX x0 ⊢
  clear hxe
  have HB0 : Hid (∀ wx, Below w0.heap.size w0 wx → ∀ i, i < [0].length → wx.cell? ⟨b, 0 + i, none⟩ = some (.int .i32 ([0].getD i 0))) := Lib.hid fun wx J i hi => by
    have hi : i < 1 := hi
    obtain rfl : i = 0 := by omega
    exact (RB.below J).cell 0
  clear RB x0
  refine region_inv (n := 8) (by kernel_rfl) (CalI w0 x b) (by kernel_rfl) ?_ ?_ rfl ?_
  · refine ⟨below_dr (Below.refl _ _), ?_, ?_, ?_, ?_, ?_, ?_, ?_, ?_⟩ <;> (intro h; simp at h)
  · intro i o ho
    rcases i with _ | _ | _ | _ | _ | _ | _ | _ | i
    all_goals (first | (simp at ho; done) | (obtain rfl := Option.some.inj ho))
    all_goals (rintro L V wx hL hpre ⟨J, K0, K1, K2, K3, K4, K5, A6, A7⟩ a hdef hev hold)
    · have X1 : a.tmps[1]?.getD undef = .pointer (some ⟨x, 0, none⟩) := by
        have h := hold 1 (by simp) (by intro j hj; rcases j with _ | _ | _ | _ | _ | _ | _ | _ | j <;> simp [dstAt])
        simpa [go_sem] using h
      exact st_val ho rfl (v := .pointer (some ⟨x, 0, none⟩)) (by go_simp) ⟨J, by simp [updV], by simpa [Upd, updV] using K1, by simpa [Upd, updV] using K2, by simpa [Upd, updV] using K3, by simpa [Upd, updV] using K4, by simpa [Upd, updV] using K5, by simpa [Upd, updV] using A6, by simpa [Upd, updV] using A7⟩
    · have p0 := hpre 0 (by decide)
      have E0 := (hev 0 16 p0 rfl (by simp) (by simp)).trans (K0 p0)
      have e0 : a.tmps[16]?.getD undef = .pointer (some ⟨x, 0, none⟩) := by simpa [go_sem] using E0
      have c0 : wx.cell? ⟨x, 0, none⟩ = some (.slice (some ⟨b, 0, none⟩) 1 1) := (RX.below J).cell 0
      exact st_val ho rfl (v := .slice (some ⟨b, 0, none⟩) 1 1) (by go_simp) ⟨J, by simpa [Upd, updV] using K0, by simp [updV], by simpa [Upd, updV] using K2, by simpa [Upd, updV] using K3, by simpa [Upd, updV] using K4, by simpa [Upd, updV] using K5, by simpa [Upd, updV] using A6, by simpa [Upd, updV] using A7⟩
    · have p1 := hpre 1 (by decide)
      have E1 := (hev 1 17 p1 rfl (by simp) (by simp)).trans (K1 p1)
      have e1 : a.tmps[17]?.getD undef = .slice (some ⟨b, 0, none⟩) 1 1 := by simpa [go_sem] using E1
      refine st_call ho rfl rfl Tryz.func139 (by kernel_rfl) rfl #[.slice (some ⟨b, 0, none⟩) 1 1] (by simp [E1]) ((clone_day b 0 1 1 [0] wx (HB0.out wx J) rfl (by omega)).mono ?_)
      rintro _ wy ⟨v, rfl, ho2, hb⟩
      exact ⟨_, rfl, ⟨below_then J hb, by simpa [Upd, updV] using K0, by simpa [Upd, updV] using K1, fun _ _ => by simpa [updV] using ownMono ho2 J.size, by simpa [Upd, updV] using K3, by simpa [Upd, updV] using K4, fun h1 h2 => by obtain ⟨g, e1, e2, R⟩ := K5 (by simpa [Upd] using h1) (by simpa [Upd] using h2); exact ⟨g, by simpa [updV] using e1, e2, R.below hb⟩, fun h => ownW_below (by simpa [updV] using A6 (by simpa [Upd] using h)) hb, by simpa [Upd, updV] using A7⟩⟩
    · have X1 : a.tmps[1]?.getD undef = .pointer (some ⟨x, 0, none⟩) := by
        have h := hold 1 (by simp) (by intro j hj; rcases j with _ | _ | _ | _ | _ | _ | _ | _ | j <;> simp [dstAt])
        simpa [go_sem] using h
      exact st_val ho rfl (v := .pointer (some ⟨x, 1, none⟩)) (by go_simp) ⟨J, by simpa [Upd, updV] using K0, by simpa [Upd, updV] using K1, by simpa [Upd, updV] using K2, by simp [updV], by simpa [Upd, updV] using K4, by simpa [Upd, updV] using K5, by simpa [Upd, updV] using A6, by simpa [Upd, updV] using A7⟩
    · have p3 := hpre 3 (by decide)
      have E3 := (hev 3 19 p3 rfl (by simp) (by simp)).trans (K3 p3)
      have e3 : a.tmps[19]?.getD undef = .pointer (some ⟨x, 1, none⟩) := by simpa [go_sem] using E3
      have c1 : wx.cell? ⟨x, 1, none⟩ = some (.int .i32 31) := (RX.below J).cell 1
      exact st_val ho rfl (v := .int .i32 31) (by go_simp) ⟨J, by simpa [Upd, updV] using K0, by simpa [Upd, updV] using K1, by simpa [Upd, updV] using K2, by simpa [Upd, updV] using K3, by simp [updV], by simpa [Upd, updV] using K5, by simpa [Upd, updV] using A6, by simpa [Upd, updV] using A7⟩
    · have p4 := hpre 4 (by decide)
      have E4 := (hev 4 20 p4 rfl (by simp) (by simp)).trans (K4 p4)
      have e4 : a.tmps[20]?.getD undef = .int .i32 31 := by simpa [go_sem] using E4
      have hb := below_alloc (Below.refl _ wx) (.cells #[.int .i32 31] 44)
      exact st_val ho rfl (v := .slice (some ⟨wx.heap.size, 0, none⟩) 1 1) (w1 := wx.alloc (.cells #[.int .i32 31] 44)) (by go_simp) ⟨below_then J hb, by simpa [Upd, updV] using K0, by simpa [Upd, updV] using K1, fun h1 h2 => ownW_below (by simpa [updV] using K2 (by simpa [Upd] using h1) (by simpa [Upd] using h2)) hb, by simpa [Upd, updV] using K3, by simpa [Upd, updV] using K4, fun _ _ => ⟨wx.heap.size, by simp [updV], J.size, Row.new wx _ _⟩, fun h => ownW_below (by simpa [updV] using A6 (by simpa [Upd] using h)) hb, by simpa [Upd, updV] using A7⟩
    · have p2 := hpre 2 (by decide)
      have p5 := hpre 5 (by decide)
      have e2 := hev 2 18 p2 rfl (by simp) (by simp)
      obtain ⟨g, v5, hg, RG⟩ := K5 p5 hL
      have e5 := (hev 5 21 p5 rfl (by simp) (by simp)).trans v5
      obtain ⟨v', w', hr, ho7, hb⟩ := append_day wx w0.heap.size 44 (V 2) 1 [0] (K2 p2 hL) g 31 RG (by omega) J.size
      exact st_val ho rfl (v := v') (w1 := w') (run_app_op _ _ _ _ rfl e2 e5 hr) ⟨J.trans hb, by simpa [Upd, updV] using K0, by simpa [Upd, updV] using K1, fun _ h => by simp [Upd] at h, by simpa [Upd, updV] using K3, by simpa [Upd, updV] using K4, fun _ h => by simp [Upd] at h, fun _ => by simpa [updV] using ho7, fun h => ⟨by simp [Upd], by have k := (A7 (by simpa [Upd] using h)).1; rw [k] at hL; cases hL⟩⟩
    · have p6 := hpre 6 (by decide)
      have e6 : a.tmps[22]?.getD undef = V 6 := by simpa [go_sem] using hev 6 22 p6 rfl (by simp) (by simp)
      exact st_val ho rfl (v := V 6) (by go_simp) ⟨J, by simpa [Upd, updV] using K0, by simpa [Upd, updV] using K1, by simpa [Upd, updV] using K2, by simpa [Upd, updV] using K3, by simpa [Upd, updV] using K4, by simpa [Upd, updV] using K5, by simpa [Upd, updV] using A6, fun _ => ⟨by simp [Upd, p6], by simp [updV]⟩⟩
  · rintro V wx ⟨J, K0, K1, K2, K3, K4, K5, A6, A7⟩
    have v0 := K0 rfl
    have v1 := K1 rfl
    have v3 := K3 rfl
    have v4 := K4 rfl
    have ho6 := A6 rfl
    have v7 := (A7 rfl).2
    clear K0 K1 K2 K3 K4 K5 A6 A7
    simp only [fill, if_true, dstAt, v0, v1, v3, v4, v7]
    simp [Act.put]
    clear v0 v1 v3 v4 v7
    obtain ⟨hN, hl⟩ := NsAt.of_own (l := [0, 31]) ho6
    generalize V 6 = v6 at *
    generalize V 2 = v2 at *
    generalize V 5 = v5 at *
    obtain ⟨p, cap, rfl, hN⟩ := hN
    rcases hN with hN | ⟨gl, off, rfl, hN⟩
    · cases hN
    have d0 : wx.cell? ⟨gl, off, none⟩ = some (.int .i32 0) := hN 0 (by show 0 < 2; omega)
    have d1 : wx.cell? ⟨gl, off + 1, none⟩ = some (.int .i32 31) := hN 1 (by show 1 < 2; omega)
    have HD := Lib.hid (And.intro d0 d1)
    have HBX := Lib.hid (below_then HBW.out J)
    have HGX := Lib.hid (HG.out.below J)
    clear d1 hN ho6 hl J RX
    show Exit.then _ _ _ { tmps := _, defers := [] } wx
    go_wp2_with fail
    refine wp_loop_rounds 3 ?_
    rw [rounds_succ]
    go_wp2_with fail
    refine (dtext_any 0 1970 (by omega) (by decide) (by decide) wx HGX.out).mono ?_
    rintro _ w1 ⟨rfl, hb⟩
    have e1 : w1.cell? ⟨gl, off, none⟩ = some (.int .i32 0) := cell_then HD.out.1 hb
    have e2 : w1.cell? ⟨gl, off + 1, none⟩ = some (.int .i32 31) := cell_then HD.out.2 hb
    have HB1 := Lib.hid (below_then HBX.out hb)
    have HG1 := Lib.hid (HGX.out.below hb)
    have s1 : dayT 1970 ((Dy.md 0 1970).1 : Int) ((Dy.md 0 1970).2 + 1) = [49, 57, 55, 48, 45, 48, 49, 45, 48, 49] := by decide +kernel
    rw [s1]
    clear hb s1 d0
    go_wp2_with fail
    rw [rounds_succ]
    go_wp2_with fail
    refine (dtext_any 31 1970 (by omega) (by decide) (by decide) w1 HG1.out).mono ?_
    rintro _ w2 ⟨rfl, hb⟩
    have f1 : w2.cell? ⟨gl, off, none⟩ = some (.int .i32 0) := cell_then e1 hb
    have HB2 := Lib.hid (below_then HB1.out hb)
    have s2 : dayT 1970 ((Dy.md 31 1970).1 : Int) ((Dy.md 31 1970).2 + 1) = [49, 57, 55, 48, 45, 48, 50, 45, 48, 49] := by decide +kernel
    rw [s2]
    clear hb s2 e1 e2
    go_wp2_with fail
    rw [rounds_succ]
    go_wp2_with fail
    exact bodyPost_ret (v := .int .i64 0) (by simp [results, Tryz.results87, go_sem]) rfl ⟨rfl, HB2.out⟩
end Go.Proofs.YtbhjkddjgikaiaaGreatDoor
