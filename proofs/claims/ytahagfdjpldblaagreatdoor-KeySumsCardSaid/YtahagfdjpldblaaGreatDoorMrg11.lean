/-
  Own texts, several in one (Links, Links2, Sorted).
-/
import Derived.Test.YtahagfdjpldblaaGreatDoorMrg10
import Derived.Test.YtahagfdjpldblaaGreatDoorMrg7
import Derived.DeepKeys4
import Derived.Test.YtahagfdjpldblaaGreatDoorMrg6
import Derived.Maps.AppendAt
namespace Go.Proofs.YtahagfdjpldblaaGreatDoor
open Go.RowKit Ky
open Go.Maps (Keyed)
set_option linter.unusedVariables false
set_option linter.unusedSimpArgs false

theorem laidOutK : laidOutB Tryz.prog = true := by kernel_rfl
theorem wf_u32 (n : Nat) (h : n < 4294967296) : (Lit.int .u32 (n : Int)).wf = true := by
  simp [Lit.wf, IntKind.min, IntKind.max, IntKind.bits, IntKind.signed]
  omega
theorem wf_u16 (n : Nat) (h : n < 65536) : (Lit.int .u16 (n : Int)).wf = true := by
  simp [Lit.wf, IntKind.min, IntKind.max, IntKind.bits, IntKind.signed]
  omega
theorem lawKey : WideMaps.KeyLaw Tryz.prog 29 := deep_law_laid laidOutK (m := 3) (by omega) (of_decide_eq_true (by kernel_rfl)) (by kernel_rfl) (by kernel_rfl)
theorem lawPair : WideMaps.KeyLaw Tryz.prog 49 := deep_law_laid laidOutK (m := 4) (by omega) (of_decide_eq_true (by kernel_rfl)) (by kernel_rfl) (by kernel_rfl)
theorem lits_key (k : K) (hk : k.ok) (d : Nat) : Tryz.prog.keyLits (d + 2) 29 [.int .u32 (k.a : Int), .int .u16 (k.e : Int), .int .u16 (k.p : Int)] = some [.int .u32 (k.a : Int), .int .u16 (k.e : Int), .int .u16 (k.p : Int)] := by
  have c0 : Tryz.prog.cellsOf 29 = 3 := by kernel_rfl
  have c1 : Tryz.prog.cellsOf 26 = 1 := by kernel_rfl
  have c2 : Tryz.prog.cellsOf 27 = 1 := by kernel_rfl
  have u0 := Tryz.underlying29
  have u1 := Tryz.underlying26
  have u2 := Tryz.underlying27
  unfold K.ok at hk
  have w1 : (Lit.int .u32 (k.a : Int)).wf = true := wf_u32 _ hk.1
  have w2 : (Lit.int .u16 (k.e : Int)).wf = true := wf_u16 _ hk.2.1
  have w3 : (Lit.int .u16 (k.p : Int)).wf = true := wf_u16 _ hk.2.2
  simp [Program.keyLits, u0, u1, u2, c0, c1, c2, w1, w2, w3]
def pval (c : K × K) : Value := .agg #[.int .u32 (c.1.a : Int), .int .u16 (c.1.e : Int), .int .u16 (c.1.p : Int), .int .u32 (c.2.a : Int), .int .u16 (c.2.e : Int), .int .u16 (c.2.p : Int)]
def lval (n : Nat) : Value := .int .i64 (n : Int)
deriving instance DecidableEq for K
theorem val_inj (c d : K) (h : c.val = d.val) : c = d := by
  unfold K.val at h
  simp at h
  obtain ⟨h1, h2, h3⟩ := h
  cases c; cases d
  simp_all
  omega
theorem pval_inj (c d : K × K) (h : pval c = pval d) : c = d := by
  unfold pval at h
  simp at h
  obtain ⟨h1, h2, h3, h4, h5, h6⟩ := h
  obtain ⟨⟨_, _, _⟩, ⟨_, _, _⟩⟩ := c
  obtain ⟨⟨_, _, _⟩, ⟨_, _, _⟩⟩ := d
  simp_all
  omega
theorem key_of (k : K) (hk : k.ok) : ∃ kl, keyOf Tryz.prog 29 k.val = some kl := by
  have u0 := Tryz.underlying29
  have c0 : Tryz.prog.cellsOf 29 = 3 := by kernel_rfl
  have k0 : Tryz.prog.keyType 29 = true := by kernel_rfl
  obtain ⟨d, hd⟩ : ∃ d, Tryz.prog.types.size + 1 = d + 2 := ⟨Tryz.prog.types.size - 1, by
    have : (decide (1 ≤ Tryz.prog.types.size)) = true := by kernel_rfl
    have := of_decide_eq_true this
    omega⟩
  unfold keyOf
  rw [u0]
  dsimp only
  rw [hd]
  have hf : Value.formed Tryz.prog 29 k.val = true := by simp [K.val, Value.formed, u0, c0]
  rw [if_pos (by rw [k0, hf]; rfl)]
  have : k.val.cells.toList = [.int .u32 (k.a : Int), .int .u16 (k.e : Int), .int .u16 (k.p : Int)] := by simp [K.val, Value.cells]
  rw [this, lits_key k hk d]
  exact ⟨_, rfl⟩
theorem pair_of (c : K × K) (h1 : c.1.ok) (h2 : c.2.ok) : ∃ kl, keyOf Tryz.prog 49 (pval c) = some kl := by
  have u0 := Tryz.underlying49
  have c0 : Tryz.prog.cellsOf 49 = 6 := by kernel_rfl
  have c1 : Tryz.prog.cellsOf 29 = 3 := by kernel_rfl
  have k0 : Tryz.prog.keyType 49 = true := by kernel_rfl
  obtain ⟨d, hd⟩ : ∃ d, Tryz.prog.types.size + 1 = d + 2 + 1 := ⟨Tryz.prog.types.size - 2, by
    have : (decide (2 ≤ Tryz.prog.types.size)) = true := by kernel_rfl
    have := of_decide_eq_true this
    omega⟩
  unfold keyOf
  rw [u0]
  dsimp only
  rw [hd]
  have hf : (pval c).formed Tryz.prog 49 = true := by simp [pval, Value.formed, u0, c0]
  rw [if_pos (by rw [k0, hf]; rfl)]
  have e0 : (pval c).cells.toList = [.int .u32 (c.1.a : Int), .int .u16 (c.1.e : Int), .int .u16 (c.1.p : Int), .int .u32 (c.2.a : Int), .int .u16 (c.2.e : Int), .int .u16 (c.2.p : Int)] := by simp [pval, Value.cells]
  have l1 := lits_key c.1 h1 d
  have l2 := lits_key c.2 h2 d
  rw [e0]
  have : Tryz.prog.keyLits (d + 2 + 1) 49 [.int .u32 (c.1.a : Int), .int .u16 (c.1.e : Int), .int .u16 (c.1.p : Int), .int .u32 (c.2.a : Int), .int .u16 (c.2.e : Int), .int .u16 (c.2.p : Int)] = some [.int .u32 (c.1.a : Int), .int .u16 (c.1.e : Int), .int .u16 (c.1.p : Int), .int .u32 (c.2.a : Int), .int .u16 (c.2.e : Int), .int .u16 (c.2.p : Int)] := by
    rw [Program.keyLits.eq_def]
    simp only [u0]
    simp [c0, c1, l1, l2, List.range_succ]
  rw [this]
  exact ⟨_, rfl⟩
theorem zero_int (w : World) : (zeroValue 3).run Tryz.prog w = .ok (.int .i64 0) w := by kernel_rfl
/-- what 'm[c]++' has done, whatever was done first -/
def LinkI (w0 : World) (b gx gy n : Nat) (x y : K) (v0 : Nat) (G : K × K → Option Nat) (L : Nat → Bool) (V : Nat → Value) (w : World) : Prop :=
  w0.grownBy w (some b) ∧ (L 0 = true → V 0 = .map (some b)) ∧ (L 1 = true → V 1 = .agg #[.int .u32 (x.a : Int), .int .u16 (x.e : Int), .int .u16 (x.p : Int)]) ∧ (L 2 = true → V 2 = .agg #[.int .u32 (y.a : Int), .int .u16 (y.e : Int), .int .u16 (y.p : Int)]) ∧ (L 3 = true → V 3 = pval (x, y)) ∧
  (L 4 = true → V 4 = .int .i64 (v0 : Int)) ∧ (L 5 = true → V 5 = .int .i64 ((v0 : Int) + 1)) ∧ (L 6 = false → w.heap[b]? = w0.heap[b]?) ∧
  (L 6 = true → ∃ (u : Value) (st : Nat) (es1 : Array MapEntry) (clock1 : Nat), V 6 = .tuple #[u, goInt st] ∧ (L 7 = true → V 7 = goInt st) ∧ (L 8 = false → w.heap[b]? = some (.map es1 clock1)) ∧
    (∀ w1 : World, w1.heap[b]? = some (.map es1 clock1) → (Instr.lookup 51 (.map (some b)) (pval (x, y)) false).run Tryz.prog w1 = .ok (.int .i64 (v0 : Int)) w1) ∧
    ∀ (w2 : World) (v : Nat), w2.heap[b]? = some (.map es1 clock1) → ∃ w3, (Instr.entryStore 51 (.map (some b)) (goInt st) (lval v)).run Tryz.prog w2 = .ok () w3 ∧ MapIs w3 Tryz.prog 49 pval lval b (n + 1) (fun d => if d = (x, y) then some v else G d) ∧ w2.grownBy w3 (some b)) ∧
  (L 7 = true → L 6 = true) ∧ (L 8 = true → L 6 = true) ∧ (L 8 = true → L 4 = true) ∧ (L 8 = true → MapIs w Tryz.prog 49 pval lval b (n + 1) (fun d => if d = (x, y) then some (v0 + 1) else G d))
set_option maxRecDepth 100000 in
set_option maxHeartbeats 4000000 in
theorem link_any (b n : Nat) (G : K × K → Option Nat) (x y : K) (hx : x.ok) (hy : y.ok) (v0 : Nat) (hv : (G (x, y)).getD 0 = v0) (hv1 : v0 ≤ 1000) (hn : n ≤ 1000) (w : World) (hM : MapIs w Tryz.prog 49 pval lval b n G) :
    Calls Tryz.prog 15 #[.map (some b), x.val, y.val] w fun e w' => e = .returned (.tuple #[]) ∧ MapIs w' Tryz.prog 49 pval lval b (n + 1) (fun d => if d = (x, y) then some (v0 + 1) else G d) ∧ w.grownBy w' (some b) := by
  obtain ⟨kl, hkey⟩ := pair_of (x, y) hx hy
  have hval : getV lval (.int .i64 0) (G (x, y)) = .int .i64 (v0 : Int) := by
    cases h : G (x, y) with
    | none => rw [h] at hv; simp at hv; subst hv; rfl
    | some v => rw [h] at hv; simp at hv; subst hv; rfl
  have hb := hM.lt
  have RX := (Row.new w #[.int .u32 (x.a : Int), .int .u16 (x.e : Int), .int .u16 (x.p : Int)] 29).alloc (.cells #[.int .u32 (y.a : Int), .int .u16 (y.e : Int), .int .u16 (y.p : Int)] 29)
  have RY := Row.new' (w.alloc (.cells #[.int .u32 (x.a : Int), .int .u16 (x.e : Int), .int .u16 (x.p : Int)] 29)) #[.int .u32 (y.a : Int), .int .u16 (y.e : Int), .int .u16 (y.p : Int)] 29 (g := w.heap.size + 1) (by simp)
  have hg0 : w.grownBy ((w.alloc (.cells #[.int .u32 (x.a : Int), .int .u16 (x.e : Int), .int .u16 (x.p : Int)] 29)).alloc (.cells #[.int .u32 (y.a : Int), .int .u16 (y.e : Int), .int .u16 (y.p : Int)] 29)) (some b) := (World.grownBy_alloc _ _ _).trans (World.grownBy_alloc _ _ _)
  have hM2 : MapIs ((w.alloc (.cells #[.int .u32 (x.a : Int), .int .u16 (x.e : Int), .int .u16 (x.p : Int)] 29)).alloc (.cells #[.int .u32 (y.a : Int), .int .u16 (y.e : Int), .int .u16 (y.p : Int)] 29)) Tryz.prog 49 pval lval b n G := hM.below (below_alloc (below_alloc (Below.refl _ w) _) _)
  have HK := Lib.hid hkey
  have HV := Lib.hid hval
  have HL1 := Lib.hid hv1
  have HN := Lib.hid hn
  have HG0 := Lib.hid hg0
  have HM2 := Lib.hid hM2
  clear hM hkey hval hv hv1 hn hx hy hg0 hM2
  have hne : ∀ W : World, (Go.binOp BinOp.neq 51 (.map (some b)) (.map none)).run Tryz.prog W = .ok (.bool true) W := fun W => by kernel_rfl
  unfold K.val
  go_enter Tryz.func15, Tryz.ntmps15
  go_wp2_with fail
  obtain ⟨gx, hgx⟩ : ∃ g, g = w.heap.size := ⟨_, rfl⟩
  obtain ⟨gy, hgy⟩ : ∃ g, g = w.heap.size + 1 := ⟨_, rfl⟩
  rw [← hgx] at RX
  rw [← hgy] at RY
  rw [← hgy, ← hgx]
  generalize (w.alloc (.cells #[.int .u32 (x.a : Int), .int .u16 (x.e : Int), .int .u16 (x.p : Int)] 29)).alloc (.cells #[.int .u32 (y.a : Int), .int .u16 (y.e : Int), .int .u16 (y.p : Int)] 29) = w2 at *
  have hbx : b ≠ gx := by omega
  have hby : b ≠ gy := by omega
  have hM := HM2.out
  have HL : ∀ w1 : World, w1.heap[b]? = w2.heap[b]? → (Instr.lookup 51 (.map (some b)) (pval (x, y)) false).run Tryz.prog w1 = .ok (.int .i64 (v0 : Int)) w1 := fun w1 h1 => by
    have h := MapIs.look (enc := pval) (vl := lval) (G := G) (n := n) (e := 3) (t := 51) (w := w1) (by obtain ⟨es, clock, h2, h3⟩ := hM; exact ⟨es, clock, h1.trans h2, h3⟩) (Keyed.of_law lawPair) Tryz.underlying51 pval_inj (zero_int w1) (x, y) HK.out
    rw [h, HV.out]
  have HE : ∀ w1 : World, w1.heap[b]? = w2.heap[b]? → ∃ (u : Value) (st : Nat) (es1 : Array MapEntry) (clock1 : Nat), (Instr.mapEntry 51 (.map (some b)) (pval (x, y))).run Tryz.prog w1 = .ok (.tuple #[u, goInt st]) (ChangeMaps.setBlock w1 b (.map es1 clock1)) ∧
      (∀ w1 : World, w1.heap[b]? = some (.map es1 clock1) → (Instr.lookup 51 (.map (some b)) (pval (x, y)) false).run Tryz.prog w1 = .ok (.int .i64 (v0 : Int)) w1) ∧
      ∀ (w2 : World) (v : Nat), w2.heap[b]? = some (.map es1 clock1) → ∃ w3, (Instr.entryStore 51 (.map (some b)) (goInt st) (lval v)).run Tryz.prog w2 = .ok () w3 ∧ MapIs w3 Tryz.prog 49 pval lval b (n + 1) (fun d => if d = (x, y) then some v else G d) ∧ w2.grownBy w3 (some b) := fun w1 h1 => by
    have h := MapIs.entry (enc := pval) (vl := lval) (G := G) (n := n) (e := 3) (t := 51) (v0 := 0) (w := w1) (by obtain ⟨es, clock, h2, h3⟩ := hM; exact ⟨es, clock, h1.trans h2, h3⟩) lawPair (Keyed.of_law lawPair) Tryz.underlying51 pval_inj (z := .int .i64 0) rfl zero_int (by have := HN.out; unfold maxLen; omega) (x, y) HK.out
    rw [HV.out] at h
    exact h
  have ev : IntKind.i64.wrap ((v0 : Int) + 1) = (v0 : Int) + 1 := by have := HL1.out; rw [IntKind.wrap_i64]; omega
  clear hgx hgy hb HM2
  refine region_inv (n := 9) (by kernel_rfl) (LinkI w2 b gx gy n x y v0 G) (by kernel_rfl) ?_ ?_ rfl ?_
  · refine ⟨⟨rfl, rfl, rfl, Nat.le_refl _, fun _ _ _ => rfl⟩, ?_⟩
    refine ⟨?_, ?_, ?_, ?_, ?_, ?_, fun _ => rfl, ?_, ?_, ?_, ?_, ?_⟩ <;> (intro h; simp at h)
  · intro i o ho
    rcases i with _ | _ | _ | _ | _ | _ | _ | _ | _ | i
    all_goals (first | (simp at ho; done) | (obtain rfl := Option.some.inj ho))
    all_goals (rintro L V wx hL hpre ⟨J, K0, K1, K2, K3, K4, K5, M0, M6, A7, A8, B8, MZ⟩ a hdef hev hold)
    · have X0 : a.tmps[0]?.getD undef = .map (some b) := by
        have h := hold 0 (by simp) (by intro j hj; rcases j with _ | _ | _ | _ | _ | _ | _ | _ | _ | j <;> simp [dstAt])
        simpa [go_sem] using h
      exact st_val ho rfl (v := .map (some b)) (by go_simp) ⟨J, by simp [updV], by simpa [Upd, updV] using K1, by simpa [Upd, updV] using K2, by simpa [Upd, updV] using K3, by simpa [Upd, updV] using K4, by simpa [Upd, updV] using K5, by simpa [Upd, updV] using M0, by simpa [Upd, updV] using M6, by simpa [Upd, updV] using A7, by simpa [Upd, updV] using A8, by simpa [Upd, updV] using B8, by simpa [Upd, updV] using MZ⟩
    · have X := hold 4 (by simp) (by intro j hj; rcases j with _ | _ | _ | _ | _ | _ | _ | _ | _ | j <;> simp [dstAt])
      have R : Row wx gx #[.int .u32 (x.a : Int), .int .u16 (x.e : Int), .int .u16 (x.p : Int)] 29 := (J.block gx RX.lt (by intro h; injection h with h; omega)).trans RX
      exact st_load ho rfl 29 _ rfl gx X R _ Tryz.underlying29 rfl (by kernel_rfl) ⟨J, by simpa [Upd, updV] using K0, by simp [updV], by simpa [Upd, updV] using K2, by simpa [Upd, updV] using K3, by simpa [Upd, updV] using K4, by simpa [Upd, updV] using K5, by simpa [Upd, updV] using M0, by simpa [Upd, updV] using M6, by simpa [Upd, updV] using A7, by simpa [Upd, updV] using A8, by simpa [Upd, updV] using B8, by simpa [Upd, updV] using MZ⟩
    · have X := hold 5 (by simp) (by intro j hj; rcases j with _ | _ | _ | _ | _ | _ | _ | _ | _ | j <;> simp [dstAt])
      have R : Row wx gy #[.int .u32 (y.a : Int), .int .u16 (y.e : Int), .int .u16 (y.p : Int)] 29 := (J.block gy RY.lt (by intro h; injection h with h; omega)).trans RY
      exact st_load ho rfl 29 _ rfl gy X R _ Tryz.underlying29 rfl (by kernel_rfl) ⟨J, by simpa [Upd, updV] using K0, by simpa [Upd, updV] using K1, by simp [updV], by simpa [Upd, updV] using K3, by simpa [Upd, updV] using K4, by simpa [Upd, updV] using K5, by simpa [Upd, updV] using M0, by simpa [Upd, updV] using M6, by simpa [Upd, updV] using A7, by simpa [Upd, updV] using A8, by simpa [Upd, updV] using B8, by simpa [Upd, updV] using MZ⟩
    · have p1 := hpre 1 (by decide)
      have E1 := (hev 1 9 p1 rfl (by simp) (by simp)).trans (K1 p1)
      have p2 := hpre 2 (by decide)
      have E2 := (hev 2 10 p2 rfl (by simp) (by simp)).trans (K2 p2)
      have e1 : a.tmps[9]?.getD undef = .agg #[.int .u32 (x.a : Int), .int .u16 (x.e : Int), .int .u16 (x.p : Int)] := by simpa [go_sem] using E1
      have e2 : a.tmps[10]?.getD undef = .agg #[.int .u32 (y.a : Int), .int .u16 (y.e : Int), .int .u16 (y.p : Int)] := by simpa [go_sem] using E2
      exact st_val ho rfl (v := pval (x, y)) (by unfold pval; go_simp) ⟨J, by simpa [Upd, updV] using K0, by simpa [Upd, updV] using K1, by simpa [Upd, updV] using K2, by simp [updV], by simpa [Upd, updV] using K4, by simpa [Upd, updV] using K5, by simpa [Upd, updV] using M0, by simpa [Upd, updV] using M6, by simpa [Upd, updV] using A7, by simpa [Upd, updV] using A8, by simpa [Upd, updV] using B8, by simpa [Upd, updV] using MZ⟩
    · have p0 := hpre 0 (by decide)
      have E0 := (hev 0 8 p0 rfl (by simp) (by simp)).trans (K0 p0)
      have p3 := hpre 3 (by decide)
      have E3 := (hev 3 11 p3 rfl (by simp) (by simp)).trans (K3 p3)
      have e0 : a.tmps[8]?.getD undef = .map (some b) := by simpa [go_sem] using E0
      have e3 : a.tmps[11]?.getD undef = pval (x, y) := by simpa [go_sem] using E3
      have hl : (Instr.lookup 51 (.map (some b)) (pval (x, y)) false).run Tryz.prog wx = .ok (.int .i64 (v0 : Int)) wx := by
        cases h6 : L 6 with
        | false => exact HL wx (M0 h6)
        | true =>
          obtain ⟨u, st, es1, clock1, _, _, h3, h4, _⟩ := M6 h6
          cases h8 : L 8 with
          | false => exact h4 wx (h3 h8)
          | true => exact absurd (B8 h8) (by rw [hL]; simp)
      exact st_val ho rfl (v := .int .i64 (v0 : Int)) (by go_simp) ⟨J, by simpa [Upd, updV] using K0, by simpa [Upd, updV] using K1, by simpa [Upd, updV] using K2, by simpa [Upd, updV] using K3, by simp [updV], by simpa [Upd, updV] using K5, by simpa [Upd, updV] using M0, by simpa [Upd, updV] using M6, by simpa [Upd, updV] using A7, by simpa [Upd, updV] using A8, fun h => by simp [Upd], by simpa [Upd, updV] using MZ⟩
    · have p4 := hpre 4 (by decide)
      have E4 := (hev 4 12 p4 rfl (by simp) (by simp)).trans (K4 p4)
      have e4 : a.tmps[12]?.getD undef = .int .i64 (v0 : Int) := by simpa [go_sem] using E4
      exact st_val ho rfl (v := .int .i64 ((v0 : Int) + 1)) (by go_simp) ⟨J, by simpa [Upd, updV] using K0, by simpa [Upd, updV] using K1, by simpa [Upd, updV] using K2, by simpa [Upd, updV] using K3, by simpa [Upd, updV] using K4, by simp [updV], by simpa [Upd, updV] using M0, by simpa [Upd, updV] using M6, by simpa [Upd, updV] using A7, by simpa [Upd, updV] using A8, by simpa [Upd, updV] using B8, by simpa [Upd, updV] using MZ⟩
    · have p0 := hpre 0 (by decide)
      have E0 := (hev 0 8 p0 rfl (by simp) (by simp)).trans (K0 p0)
      have p3 := hpre 3 (by decide)
      have E3 := (hev 3 11 p3 rfl (by simp) (by simp)).trans (K3 p3)
      have e0 : a.tmps[8]?.getD undef = .map (some b) := by simpa [go_sem] using E0
      have e3 : a.tmps[11]?.getD undef = pval (x, y) := by simpa [go_sem] using E3
      obtain ⟨u, st, es1, clock1, hr, h4, h5⟩ := HE wx (M0 hL)
      have hb : ∃ es clock, wx.heap[b]? = some (.map es clock) := by rw [M0 hL]; obtain ⟨es, clock, h, _⟩ := hM; exact ⟨es, clock, h⟩
      obtain ⟨es, clock, hb⟩ := hb
      exact st_val ho rfl (v := .tuple #[u, goInt st]) (w1 := ChangeMaps.setBlock wx b (.map es1 clock1)) (by go_simp) ⟨J.trans ⟨rfl, rfl, rfl, by simp [ChangeMaps.setBlock], fun i _ hi => ChangeMaps.heap_setBlock_other hb _ (fun e => hi (by rw [e]))⟩, by simpa [Upd, updV] using K0, by simpa [Upd, updV] using K1, by simpa [Upd, updV] using K2, by simpa [Upd, updV] using K3, by simpa [Upd, updV] using K4, by simpa [Upd, updV] using K5, fun h => by simp [Upd] at h, fun _ => ⟨u, st, es1, clock1, by simp [updV], fun h => absurd (A7 (by simpa [Upd] using h)) (by rw [hL]; simp), fun _ => ChangeMaps.heap_setBlock_same hb _, h4, h5⟩, fun _ => by simp [Upd], fun _ => by simp [Upd], by simpa [Upd, updV] using B8, fun h => absurd (A8 (by simpa [Upd] using h)) (by rw [hL]; simp)⟩
    · have p6 := hpre 6 (by decide)
      obtain ⟨u, st, es1, clock1, h1, h2, h3, h4, h5⟩ := M6 p6
      have E6 := (hev 6 14 p6 rfl (by simp) (by simp)).trans h1
      have e6 : a.tmps[14]?.getD undef = .tuple #[u, goInt st] := by simpa [go_sem] using E6
      exact st_val ho rfl (v := goInt st) (by go_simp) ⟨J, by simpa [Upd, updV] using K0, by simpa [Upd, updV] using K1, by simpa [Upd, updV] using K2, by simpa [Upd, updV] using K3, by simpa [Upd, updV] using K4, by simpa [Upd, updV] using K5, by simpa [Upd, updV] using M0, fun _ => ⟨u, st, es1, clock1, by simpa [updV] using h1, fun _ => by simp [updV], by simpa [Upd] using h3, h4, h5⟩, fun _ => by simp [Upd, p6], by simpa [Upd, updV] using A8, by simpa [Upd, updV] using B8, by simpa [Upd, updV] using MZ⟩
    · have p0 := hpre 0 (by decide)
      have E0 := (hev 0 8 p0 rfl (by simp) (by simp)).trans (K0 p0)
      have p5 := hpre 5 (by decide)
      have E5 := (hev 5 13 p5 rfl (by simp) (by simp)).trans (K5 p5)
      have p4 := hpre 4 (by decide)
      have p6 := hpre 6 (by decide)
      have p7 := hpre 7 (by decide)
      obtain ⟨u, st, es1, clock1, h1, h2, h3, h4, h5⟩ := M6 p6
      have E7 := (hev 7 15 p7 rfl (by simp) (by simp)).trans (h2 p7)
      obtain ⟨w3, hr, hM3, hg⟩ := h5 wx (v0 + 1) (h3 hL)
      have e0 : a.tmps[8]?.getD undef = .map (some b) := by simpa [go_sem] using E0
      have e5 : a.tmps[13]?.getD undef = .int .i64 ((v0 : Int) + 1) := by simpa [go_sem] using E5
      have e7 : a.tmps[15]?.getD undef = goInt st := by simpa [go_sem] using E7
      have hr' : (Instr.entryStore 51 (.map (some b)) (.int .i64 (st : Int)) (.int .i64 ((v0 : Int) + 1))).run Tryz.prog wx = .ok () w3 := hr
      exact st_skip ho rfl (w1 := w3) (by go_simp) ⟨J.trans hg, by simpa [Upd, updV] using K0, by simpa [Upd, updV] using K1, by simpa [Upd, updV] using K2, by simpa [Upd, updV] using K3, by simpa [Upd, updV] using K4, by simpa [Upd, updV] using K5, fun h => by simp [Upd, p6] at h, fun _ => ⟨u, st, es1, clock1, by simpa [updV] using h1, by simpa [Upd, updV] using h2, fun h => by simp [Upd] at h, h4, h5⟩, by simpa [Upd, updV] using A7, fun _ => by simp [Upd, p6], fun _ => by simp [Upd, p4], fun _ => hM3⟩
  · rintro V wx ⟨J, K0, K1, K2, K3, K4, K5, M0, M6, A7, A8, B8, MZ⟩
    have hz := MZ rfl
    have hj := HG0.out.trans J
    clear M0 M6 A7 A8 B8 MZ J HL HE hM
    simp only [fill, if_true, dstAt]
    simp [Act.put]
    go_wp2
    go_end0
    exact ⟨rfl, hz, hj⟩
end Go.Proofs.YtahagfdjpldblaaGreatDoor

namespace Go.Proofs.YtahagfdjpldblaaGreatDoor
open Go.RowKit Ky
open Go.Maps (Keyed)
set_option linter.unusedVariables false
set_option linter.unusedSimpArgs false

theorem link_none (x y : K) (w : World) : Calls Tryz.prog 15 #[.map none, x.val, y.val] w fun e w' => e = .returned (.tuple #[]) ∧ Below w.heap.size w w' := by
  have hne : ∀ W : World, (Go.binOp BinOp.neq 51 (.map none) (.map none)).run Tryz.prog W = .ok (.bool false) W := fun W => by kernel_rfl
  unfold K.val
  go_enter Tryz.func15, Tryz.ntmps15
  go_wp2
  go_end0
  exact ⟨rfl, below_alloc (below_alloc (Below.refl _ w) _) _⟩
theorem many_any (b n : Nat) (G : K × K → Option Nat) (x y : K) (hx : x.ok) (hy : y.ok) (w : World) (hM : MapIs w Tryz.prog 49 pval lval b n G) :
    Calls Tryz.prog 17 #[.map (some b), x.val, y.val] w fun e w' => e = .returned (.int .i64 (((G (x, y)).getD 0 : Nat) : Int)) ∧ Below w.heap.size w w' := by
  obtain ⟨kl, hkey⟩ := pair_of (x, y) hx hy
  have hval : getV lval (.int .i64 0) (G (x, y)) = .int .i64 (((G (x, y)).getD 0 : Nat) : Int) := by
    cases h : G (x, y) <;> rfl
  have hB := below_alloc (below_alloc (Below.refl _ w) (.cells #[.int .u32 (x.a : Int), .int .u16 (x.e : Int), .int .u16 (x.p : Int)] 29)) (.cells #[.int .u32 (y.a : Int), .int .u16 (y.e : Int), .int .u16 (y.p : Int)] 29)
  have hl := MapIs.look (enc := pval) (vl := lval) (G := G) (n := n) (e := 3) (t := 51) (hM.below hB) (Keyed.of_law lawPair) Tryz.underlying51 pval_inj (zero_int _) (x, y) hkey
  rw [hval] at hl
  unfold pval at hl
  dsimp only at hl
  have HB := Lib.hid hB
  clear hB hM hkey hval hx hy
  generalize (((G (x, y)).getD 0 : Nat) : Int) = v at *
  unfold K.val
  go_enter Tryz.func17, Tryz.ntmps17
  go_wp2
  go_ret
  exact ⟨rfl, HB.out⟩
theorem many_none (x y : K) (hx : x.ok) (hy : y.ok) (w : World) : Calls Tryz.prog 17 #[.map none, x.val, y.val] w fun e w' => e = .returned (.int .i64 0) ∧ Below w.heap.size w w' := by
  obtain ⟨kl, hkey⟩ := pair_of (x, y) hx hy
  have hl : ∀ W : World, (Instr.lookup 51 (.map none) (pval (x, y)) false).run Tryz.prog W = .ok (.int .i64 0) W := fun W => by
    have hf : (Instr.findKey 49 (pval (x, y)) []).run Tryz.prog W = .ok none W := by
      rcases (Keyed.of_law lawPair).find W hkey [] (by simp) with ⟨h, _⟩ | ⟨j, e0, _, h, _⟩
      · exact h
      · simp at h
    simp [Instr.lookup, run_underlying Tryz.underlying51, (Keyed.of_law lawPair).check W _ hkey, hf, zero_int, Result.andThen]
  unfold pval at hl
  dsimp only at hl
  have HB := Lib.hid (below_alloc (below_alloc (Below.refl _ w) (.cells #[.int .u32 (x.a : Int), .int .u16 (x.e : Int), .int .u16 (x.p : Int)] 29)) (.cells #[.int .u32 (y.a : Int), .int .u16 (y.e : Int), .int .u16 (y.p : Int)] 29))
  clear hkey hx hy
  unfold K.val
  go_enter Tryz.func17, Tryz.ntmps17
  go_wp2
  go_ret
  exact ⟨rfl, HB.out⟩
end Go.Proofs.YtahagfdjpldblaaGreatDoor

namespace Go.Proofs.YtahagfdjpldblaaGreatDoor
open Go.RowKit Ky
open Go.Maps (Keyed)
open Go.ChangeMaps (setBlock)
open Go.WideElems (Fit)
set_option linter.unusedVariables false
set_option linter.unusedSimpArgs false

def pc (c : K × K) : List Value := [.int .u32 (c.1.a : Int), .int .u16 (c.1.e : Int), .int .u16 (c.1.p : Int), .int .u32 (c.2.a : Int), .int .u16 (c.2.e : Int), .int .u16 (c.2.p : Int)]
def pcs (l : List (K × K)) : List Value := l.flatMap pc
theorem pval_pc (c : K × K) : pval c = .agg (pc c).toArray := rfl
theorem key_inj {l : List MapEntry} (hn : (l.map (·.key)).Nodup) {x y : MapEntry} (hx : x ∈ l) (hy : y ∈ l) (h : x.key = y.key) : x = y := by
  induction l with
  | nil => cases hx
  | cons a l ih =>
    simp only [List.map_cons, List.nodup_cons] at hn
    rcases List.mem_cons.1 hx with e1 | hx <;> rcases List.mem_cons.1 hy with e2 | hy
    · rw [e1, e2]
    · exact absurd (List.mem_map.2 ⟨y, hy, by rw [← h, e1]⟩) hn.1
    · exact absurd (List.mem_map.2 ⟨x, hx, by rw [h, e2]⟩) hn.1
    · exact ih hn.2 hx hy
/-- what has been met so far of a map -/
def Coll (es : Array MapEntry) (seen : Array Nat) (l : List (K × K)) : Prop := l.Nodup ∧ ∀ c, c ∈ l ↔ ∃ x ∈ es.toList, x.key = pval c ∧ seen.contains x.born = true
theorem Coll.start (es : Array MapEntry) : Coll es #[] [] := ⟨List.nodup_nil, fun c => ⟨fun h => (by cases h), fun ⟨x, _, _, h⟩ => by simp at h⟩⟩
theorem Coll.step {es : Array MapEntry} {seen : Array Nat} {l : List (K × K)} (h : Coll es seen l) {clock : Nat} (hs : MapKept.Stamped es clock) {x : MapEntry} (hx : x ∈ (leftOf es seen).toList) {c : K × K} (hc : x.key = pval c) : Coll es (seen.push x.born) (l ++ [c]) := by
  obtain ⟨hxe, hxs⟩ := mem_left hx
  obtain ⟨s1, s2, s3⟩ := hs
  have hkey : ∀ y ∈ es.toList, y.key = x.key → y = x := by
    intro y hy hk
    exact key_inj s3 hy hxe hk
  have hnot : c ∉ l := fun h1 => by
    obtain ⟨y, hy, hk, hse⟩ := (h.2 c).1 h1
    have := hkey y hy (hk.trans hc.symm)
    subst this
    rw [hxs] at hse
    cases hse
  refine ⟨List.nodup_append.2 ⟨h.1, by simp, fun a ha d hd => ?_⟩, fun d => ?_⟩
  · simp at hd
    subst hd
    intro e
    subst e
    exact hnot ha
  · rw [List.mem_append, List.mem_singleton, h.2 d]
    constructor
    · rintro (⟨y, hy, hk, hse⟩ | rfl)
      · exact ⟨y, hy, hk, by rw [contains_push, hse]; rfl⟩
      · exact ⟨x, hxe, hc, by rw [contains_push]; simp⟩
    · rintro ⟨y, hy, hk, hse⟩
      rw [contains_push, Bool.or_eq_true] at hse
      rcases hse with hse | hse
      · exact .inl ⟨y, hy, hk, hse⟩
      · have hb : y.born = x.born := beq_iff_eq.1 hse
        have := born_inj s2 hy hxe hb
        subst this
        exact .inr (pval_inj _ _ (hk.symm.trans hc))
theorem info_pair : ∃ i, Tryz.prog.info? 49 = some i ∧ i.zero = some (.agg (pc (⟨0, 0, 0⟩, ⟨0, 0, 0⟩)).toArray) ∧ i.size = 6 ∧ i.bytes = 16 := by
  have h : (Tryz.prog.info? 49).map (fun i => (i.zero, i.size, i.bytes)) = some (some (.agg (pc (⟨0, 0, 0⟩, ⟨0, 0, 0⟩)).toArray), 6, 16) := by kernel_rfl
  obtain ⟨i, hi, h⟩ := Option.map_eq_some_iff.1 h
  simp only [Prod.mk.injEq] at h
  exact ⟨i, hi, h.1, h.2.1, h.2.2⟩
theorem zero_pair (w : World) : (zeroValue 49).run Tryz.prog w = .ok (.agg (pc (⟨0, 0, 0⟩, ⟨0, 0, 0⟩)).toArray) w := by kernel_rfl
theorem pc_one (c : K × K) : ∀ u ∈ pc c, u.oneCell' = true := by
  intro u hu
  simp [pc] at hu
  rcases hu with rfl | rfl | rfl | rfl | rfl | rfl <;> rfl
theorem pc_all (c : K × K) : (pc c).toArray.all (·.oneCell') = true := by simp [pc, Value.oneCell']
theorem pc_info (c : K × K) : (Tryz.prog.info? 49).map (·.size) = some (pc c).toArray.size := by show _ = some 6; kernel_rfl
theorem pc_size (c d : K × K) : (pc c).toArray.size = (pc d).toArray.size := rfl
theorem pc_len (c : K × K) : (pc c).length = 6 := rfl
theorem pcs_len (l : List (K × K)) : (pcs l).length = l.length * 6 := by
  induction l with
  | nil => rfl
  | cons c l ih => simp only [pcs, List.flatMap_cons, List.length_append, pc_len, List.length_cons] at *; omega
theorem own_below {w w' : World} {B n size : Nat} {e : TypeId} {v : Value} {xs : List Value} (h : w.ownsRow B e size v n xs) (hb : Below w.heap.size w w') : w'.ownsRow B e size v n xs := by
  refine ⟨h.1, ?_⟩
  rcases h.2 with h2 | ⟨g, cap, cur, e1, e2, e3, e4⟩
  · exact .inl h2
  · have hlt : g < w.heap.size := by
      by_cases c : g < w.heap.size
      · exact c
      · rw [Array.getElem?_eq_none (by omega)] at e3; cases e3
    exact .inr ⟨g, cap, cur, e1, e2, (hb.block g hlt).trans e3, e4⟩
theorem own_ge {w : World} {B n size g : Nat} {e : TypeId} {v : Value} {xs : List Value} (h : w.ownsRow B e size v n xs) (hg : v.ownBlock = some g) : B ≤ g := by
  rcases h.2 with ⟨rfl, _⟩ | ⟨g', cap, cur, rfl, e2, _⟩
  · simp [Value.ownBlock] at hg
  · simp [Value.ownBlock] at hg
    omega
theorem pc_cell (W : World) (c : K × K) (t : TypeId) : ∀ j u, (pc c)[j]? = some u → (W.alloc (.cells (pc c).toArray t)).cell? ((⟨W.heap.size, 0, none⟩ : Addr).add j) = some u := by
  intro j u hj
  have hR := (Row.new W (pc c).toArray t).cell j
  have e1 : (⟨W.heap.size, 0, none⟩ : Addr).add j = ⟨W.heap.size, j, none⟩ := by
    simp only [Addr.add, Nat.zero_add]
    split
    · next h => rw [h]
    · rfl
  rw [e1, hR]
  simpa using hj
theorem left_len (es : Array MapEntry) (seen : Array Nat) : (leftOf es seen).size ≤ es.size := by
  unfold leftOf
  exact Array.size_filter_le ..

set_option maxHeartbeats 400000 in
set_option maxRecDepth 100000 in
theorem sortedL_any (b n : Nat) (G : K × K → Option Nat) (fv : Value) (w : World) (hn : n ≤ 1000) (R : World → Value → List (K × K) → Prop) (hM : MapIs w Tryz.prog 49 pval lval b n G)
    (SF : ∀ (W : World) (B : Nat) (v : Value) (l : List (K × K)), B ≤ W.heap.size → l.length ≤ 1000 → (∀ c ∈ l, ∃ u, G c = some u) → W.ownsRow B 49 6 v l.length (pcs l) →
      Calls Tryz.prog 37 #[v, fv] W fun e w' => e = .returned (.tuple #[]) ∧ ∃ l', l'.Perm l ∧ R w' v l' ∧ Below B W w') :
    Calls Tryz.prog 29 #[.map (some b), fv] w fun e w' => ∃ v l', e = .returned v ∧ l'.Nodup ∧ (∀ c, c ∈ l' ↔ ∃ u, G c = some u) ∧ R w' v l' ∧ Below w.heap.size w w' := by
  obtain ⟨es, clock, hb, F, hs, H1, H2⟩ := hM
  have hbl : b < w.heap.size := by
    by_cases c : b < w.heap.size
    · exact c
    · rw [Array.getElem?_eq_none (by omega)] at hb; cases hb
  have hrg := run_range_map w 50 49 3 b es clock Tryz.underlying50 hb
  have hb1 : (w.alloc (.mapIter (some b) clock #[] clock)).heap[b]? = some (.map es clock) := by rw [heap_alloc_old _ _ hbl]; exact hb
  have hr1 : (w.alloc (.mapIter (some b) clock #[] clock)).heap[w.heap.size]? = some (.mapIter (some b) clock #[] clock) := heap_alloc_new w _
  have HF := Lib.hid F
  have HH := Lib.hid H1
  have H2H := Lib.hid H2
  have HSF := Lib.hid SF
  clear SF
  have HS := Lib.hid hs
  have HB := Lib.hid hb1
  have HR := Lib.hid hr1
  have HN := Lib.hid hn
  clear F H1 H2 hb hs hb1 hr1 hn
  go_enter Tryz.func29, Tryz.ntmps29
  go_wp2_with fail
  generalize hw1 : w.alloc (.mapIter (some b) clock #[] clock) = w1 at *
  have hB1 : Below w.heap.size w w1 := by rw [← hw1]; exact below_alloc (Below.refl _ _) _
  obtain ⟨r, hrr⟩ : ∃ r, r = w.heap.size := ⟨_, rfl⟩
  rw [← hrr] at HR ⊢
  have hrle : w.heap.size ≤ r := by omega
  have hbr : b ≠ r := by omega
  clear hw1 hrg hrr
  go_loopw [5] (fun v wr => ∃ (seen : Array Nat) (c0 : Nat) (l : List (K × K)), wr.heap[r]? = some (.mapIter (some b) clock seen c0) ∧ clock ≤ c0 ∧ wr.heap[b]? = some (.map es clock) ∧ Coll es seen l ∧ l.length + (leftOf es seen).size ≤ es.size ∧ wr.ownsRow (r + 1) 49 6 v l.length (pcs l) ∧ Below w.heap.size w wr) (fun _ wr => (leftOf es (wr.iterSeen r)).size)
  case atStart => exact ⟨#[], clock, [], HR.out, Nat.le_refl _, HB.out, Coll.start es, by simpa using left_len es #[], ⟨rfl, .inl ⟨rfl, rfl⟩⟩, hB1⟩
  case round =>
    obtain ⟨seen, c0, l, hr, hc0, hbm, hC, hlen, hown, BB⟩ := hrel
    rcases run_next_at (P := Tryz.prog) wr 0 r b clock c0 seen es clock hr hbm HF.out.stamped.1 hc0 with ⟨h0, hnext⟩ | ⟨x, hx, w2, hw2, hnext⟩
    · have hall := all_seen es seen h0
      have hmem : ∀ c, c ∈ l ↔ ∃ u, G c = some u := fun c => by
        rw [hC.2 c]
        constructor
        · rintro ⟨x, hx, hk, _⟩
          obtain ⟨d, u, h1, _, h3⟩ := HH.out x hx
          have := pval_inj _ _ (hk.symm.trans h1)
          subst this
          exact ⟨u, h3⟩
        · rintro ⟨u, hu⟩
          obtain ⟨x, hx, hk, _⟩ := H2H.out c u hu
          exact ⟨x, hx, hk, hall x hx⟩
      have hl1 : l.length ≤ 1000 := by
        have a1 := HN.out
        have a2 := HS.out
        omega
      have hrl : r + 1 ≤ wr.heap.size := by
        by_cases c : r < wr.heap.size
        · omega
        · rw [Array.getElem?_eq_none (by omega)] at hr; cases hr
      have S := Lib.hid (HSF.out wr (r + 1) u5 l hrl hl1 (fun c hc => (hmem c).1 hc) hown)
      have HM := Lib.hid hmem
      have HD := Lib.hid hC.1
      have BBH := Lib.hid BB
      clear hall hmem hl1 hrl hown hC hlen hbm hr BB h0
      go_wp2_with fail
      refine S.out.mono ?_
      rintro _ w9 ⟨rfl, l', hp, hR, hb9⟩
      go_wp2
      go_ret
      refine ⟨_, l', rfl, (hp.nodup_iff).2 HD.out, fun c => (hp.mem_iff).trans (HM.out c), hR, ?_⟩
      exact BBH.out.trans (hb9.mono (by omega))
    · obtain ⟨hxe, hxs⟩ := mem_left hx
      obtain ⟨c, cv, hck, _, _⟩ := HH.out x hxe
      have hlt : r < wr.heap.size := by
        by_cases c : r < wr.heap.size
        · exact c
        · rw [Array.getElem?_eq_none (by omega)] at hr; cases hr
      have h2r : w2.heap = wr.heap := by rcases hw2 with rfl | rfl <;> rfl
      have h2b : Below w.heap.size w w2 := by rcases hw2 with rfl | rfl; exact BB; exact below_dr BB
      have h2o : w2.ownsRow (r + 1) 49 6 u5 l.length (pcs l) := by rcases hw2 with rfl | rfl <;> exact hown
      have hr3 : (setBlock w2 r (.mapIter (some b) clock (seen.push x.born) clock)).heap[r]? = some (.mapIter (some b) clock (seen.push x.born) clock) := by
        simp [setBlock, h2r, hlt]
      have hoth : ∀ i, i ≠ r → (setBlock w2 r (.mapIter (some b) clock (seen.push x.born) clock)).heap[i]? = wr.heap[i]? := fun i hi => by
        simp [setBlock, h2r, Array.getElem?_setIfInBounds, Ne.symm hi]
      have hb3 : (setBlock w2 r (.mapIter (some b) clock (seen.push x.born) clock)).heap[b]? = some (.map es clock) := (hoth b hbr).trans hbm
      have hB3 : Below w.heap.size w (setBlock w2 r (.mapIter (some b) clock (seen.push x.born) clock)) := ⟨h2b.os, h2b.tape, h2b.output, by simp [setBlock]; exact h2b.size, fun i hi => by rw [hoth i (by omega), ← h2r]; exact h2b.block i hi⟩
      have ho3 : (setBlock w2 r (.mapIter (some b) clock (seen.push x.born) clock)).ownsRow (r + 1) 49 6 u5 l.length (pcs l) := by
        refine ⟨hown.1, ?_⟩
        rcases hown.2 with h | ⟨g, cap, cur, e1, e2, e3, e4⟩
        · exact .inl h
        · exact .inr ⟨g, cap, cur, e1, e2, by rw [hoth g (by omega)]; exact e3, e4⟩
      have hent := run_entry_at (P := Tryz.prog) _ r b clock seen es clock x hr3 hb3 hxe HF.out.stamped.2.1
      generalize setBlock w2 r (.mapIter (some b) clock (seen.push x.born) clock) = w3 at *
      rw [hck, pval_pc] at hent
      have HC := Lib.hid (hC.step HF.out.stamped hx hck)
      have HIS := Lib.hid (show wr.iterSeen r = seen by unfold World.iterSeen; rw [hr])
      have hpl : (pc c).length = 6 := rfl
      have hR3 := Lib.hid hr3
      have hBM3 := Lib.hid hb3
      have hsh := left_shrinks es seen x hx
      clear hw2 h2r h2b h2o hoth hlt hck hC hown BB hr hbm
      obtain ⟨inf, hi, h1, h2, h3⟩ := info_pair
      have h3b : r < w3.heap.size := by
        by_cases c : r < w3.heap.size
        · exact c
        · rw [Array.getElem?_eq_none (by omega)] at hr3; cases hr3
      have HN2 : l.length + 1 ≤ 1000 := by
        have a1 := HN.out
        have a2 := HS.out
        omega
      have HI := Lib.hid hi
      have HO := Lib.hid ho3
      clear hi ho3
      go_wp2_with (first
        | ((with_reducible refine ev_alloc (N := 6) ?_ ?_ 49 ?_ _ zero_pair ?_); (rfl); (rfl); (rfl); intro gp w4 hgp RP B4)
        | ((with_reducible refine ev_store ?_ 49 (Operand.tmp 6) (Operand.tmp 12) ?_ gp (pc c).toArray ?_ ?_ RP (pc_info c) (pc_size (⟨0, 0, 0⟩, ⟨0, 0, 0⟩) c) (pc_all c) ?_ ?_); (rfl); (rfl); (rfl); (rfl); (rfl); intro w5 RZ S5; have hB5 := S5.below B4 hgp; have ho5 := own_below HO.out hB5; have hr5 : r < w5.heap.size := Nat.lt_of_lt_of_le h3b hB5.size)
        | ((with_reducible refine ev_load (N := 14) ?_ ?_ 49 (Operand.tmp 6) ?_ gp ?_ RZ _ Tryz.underlying49 ?_ (pc_info c) ?_); (rfl); (rfl); (rfl); (rfl); (rfl))
        | (at_builtin; refine wpList_append_own_at _ rfl _ _ 48 rfl (r + 1) 49 inf (.agg (pc (⟨0, 0, 0⟩, ⟨0, 0, 0⟩)).toArray) 6 16 Tryz.underlying48 HI.out h1 h2 h3 rfl (by decide) u5 l.length (pcs l) rfl (own_alloc ho5 _) ⟨w5.heap.size, 0, none⟩ 1 1 (pc c) rfl rfl (pc_cell w5 c _) (pc_one c) (by unfold maxLen; omega) (by omega) (by simp; omega) ?_; intro v2 w6 hown6 hg6 hnil6 hat6))
      have hnr : ∀ i, i ≤ r → some i ≠ u5.ownBlock := fun i hi e => by
        have := own_ge HO.out e.symm
        omega
      have hh : ∀ i, i ≤ r → w6.heap[i]? = w3.heap[i]? := fun i hi => by
        rw [hg6.block i (by simp; omega) (hnr i hi), heap_alloc_old _ _ (by omega)]
        exact hB5.block i (by omega)
      refine ⟨⟨seen.push x.born, clock, l ++ [c], (hh r (by omega)).trans hR3.out, Nat.le_refl _, (hh b (by omega)).trans hBM3.out, HC.out, by simp; omega, ?_, ?_⟩, ?_⟩
      · have e1 : pcs (l ++ [c]) = pcs l ++ pc c := by simp [pcs]
        rw [e1, List.length_append]
        exact hown6
      · exact (below_alloc (below_then hB3 hB5) _).grown hg6 (Nat.le_trans (below_then hB3 hB5).size (by simp)) (fun k hk => by have := own_ge HO.out hk; omega)
      · have e2 : w6.iterSeen r = seen.push x.born := by
          unfold World.iterSeen
          rw [hh r (by omega), hR3.out]
        rw [e2, HIS.out]
        exact hsh
end Go.Proofs.YtahagfdjpldblaaGreatDoor
