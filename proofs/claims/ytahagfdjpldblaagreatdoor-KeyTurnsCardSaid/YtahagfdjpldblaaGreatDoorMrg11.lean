/-
  Own texts, several in one (Links, CmpG, Links2).
-/
import Derived.Test.YtahagfdjpldblaaGreatDoorMrg10
import Derived.Test.YtahagfdjpldblaaGreatDoorMrg7
import Derived.DeepKeys4
import Derived.Lib.Walk
namespace Go.Proofs.YtahagfdjpldblaaGreatDoor
open Go.RowKit Ky
open Go.Maps (Keyed)
set_option linter.unusedVariables false
set_option linter.unusedSimpArgs false

theorem laidOutK : laidOutB Tryz.prog = true := by kernel_rfl
theorem wf_u32 (n : Nat) (h : n < 4294967296) : (Lit.int .u32 (n : Int)).wf = true := by
  simp [Lit.wf, IntKind.min, IntKind.max, IntKind.bits, IntKind.signed]
  omega
theorem wf_u16 (n : Nat) (h : n < 65536) : (Lit.int .u16 (n : Int)).wf = true := by
  simp [Lit.wf, IntKind.min, IntKind.max, IntKind.bits, IntKind.signed]
  omega
theorem lawKey : WideMaps.KeyLaw Tryz.prog 29 := deep_law_laid laidOutK (m := 3) (by omega) (of_decide_eq_true (by kernel_rfl)) (by kernel_rfl) (by kernel_rfl)
theorem lawPair : WideMaps.KeyLaw Tryz.prog 49 := deep_law_laid laidOutK (m := 4) (by omega) (of_decide_eq_true (by kernel_rfl)) (by kernel_rfl) (by kernel_rfl)
theorem lits_key (k : K) (hk : k.ok) (d : Nat) : Tryz.prog.keyLits (d + 2) 29 [.int .u32 (k.a : Int), .int .u16 (k.e : Int), .int .u16 (k.p : Int)] = some [.int .u32 (k.a : Int), .int .u16 (k.e : Int), .int .u16 (k.p : Int)] := by
  have c0 : Tryz.prog.cellsOf 29 = 3 := by kernel_rfl
  have c1 : Tryz.prog.cellsOf 26 = 1 := by kernel_rfl
  have c2 : Tryz.prog.cellsOf 27 = 1 := by kernel_rfl
  have u0 := Tryz.underlying29
  have u1 := Tryz.underlying26
  have u2 := Tryz.underlying27
  unfold K.ok at hk
  have w1 : (Lit.int .u32 (k.a : Int)).wf = true := wf_u32 _ hk.1
  have w2 : (Lit.int .u16 (k.e : Int)).wf = true := wf_u16 _ hk.2.1
  have w3 : (Lit.int .u16 (k.p : Int)).wf = true := wf_u16 _ hk.2.2
  simp [Program.keyLits, u0, u1, u2, c0, c1, c2, w1, w2, w3]
def pval (c : K × K) : Value := .agg #[.int .u32 (c.1.a : Int), .int .u16 (c.1.e : Int), .int .u16 (c.1.p : Int), .int .u32 (c.2.a : Int), .int .u16 (c.2.e : Int), .int .u16 (c.2.p : Int)]
def lval (n : Nat) : Value := .int .i64 (n : Int)
deriving instance DecidableEq for K
theorem val_inj (c d : K) (h : c.val = d.val) : c = d := by
  unfold K.val at h
  simp at h
  obtain ⟨h1, h2, h3⟩ := h
  cases c; cases d
  simp_all
  omega
theorem pval_inj (c d : K × K) (h : pval c = pval d) : c = d := by
  unfold pval at h
  simp at h
  obtain ⟨h1, h2, h3, h4, h5, h6⟩ := h
  obtain ⟨⟨_, _, _⟩, ⟨_, _, _⟩⟩ := c
  obtain ⟨⟨_, _, _⟩, ⟨_, _, _⟩⟩ := d
  simp_all
  omega
theorem key_of (k : K) (hk : k.ok) : ∃ kl, keyOf Tryz.prog 29 k.val = some kl := by
  have u0 := Tryz.underlying29
  have c0 : Tryz.prog.cellsOf 29 = 3 := by kernel_rfl
  have k0 : Tryz.prog.keyType 29 = true := by kernel_rfl
  obtain ⟨d, hd⟩ : ∃ d, Tryz.prog.types.size + 1 = d + 2 := ⟨Tryz.prog.types.size - 1, by
    have : (decide (1 ≤ Tryz.prog.types.size)) = true := by kernel_rfl
    have := of_decide_eq_true this
    omega⟩
  unfold keyOf
  rw [u0]
  dsimp only
  rw [hd]
  have hf : Value.formed Tryz.prog 29 k.val = true := by simp [K.val, Value.formed, u0, c0]
  rw [if_pos (by rw [k0, hf]; rfl)]
  have : k.val.cells.toList = [.int .u32 (k.a : Int), .int .u16 (k.e : Int), .int .u16 (k.p : Int)] := by simp [K.val, Value.cells]
  rw [this, lits_key k hk d]
  exact ⟨_, rfl⟩
theorem pair_of (c : K × K) (h1 : c.1.ok) (h2 : c.2.ok) : ∃ kl, keyOf Tryz.prog 49 (pval c) = some kl := by
  have u0 := Tryz.underlying49
  have c0 : Tryz.prog.cellsOf 49 = 6 := by kernel_rfl
  have c1 : Tryz.prog.cellsOf 29 = 3 := by kernel_rfl
  have k0 : Tryz.prog.keyType 49 = true := by kernel_rfl
  obtain ⟨d, hd⟩ : ∃ d, Tryz.prog.types.size + 1 = d + 2 + 1 := ⟨Tryz.prog.types.size - 2, by
    have : (decide (2 ≤ Tryz.prog.types.size)) = true := by kernel_rfl
    have := of_decide_eq_true this
    omega⟩
  unfold keyOf
  rw [u0]
  dsimp only
  rw [hd]
  have hf : (pval c).formed Tryz.prog 49 = true := by simp [pval, Value.formed, u0, c0]
  rw [if_pos (by rw [k0, hf]; rfl)]
  have e0 : (pval c).cells.toList = [.int .u32 (c.1.a : Int), .int .u16 (c.1.e : Int), .int .u16 (c.1.p : Int), .int .u32 (c.2.a : Int), .int .u16 (c.2.e : Int), .int .u16 (c.2.p : Int)] := by simp [pval, Value.cells]
  have l1 := lits_key c.1 h1 d
  have l2 := lits_key c.2 h2 d
  rw [e0]
  have : Tryz.prog.keyLits (d + 2 + 1) 49 [.int .u32 (c.1.a : Int), .int .u16 (c.1.e : Int), .int .u16 (c.1.p : Int), .int .u32 (c.2.a : Int), .int .u16 (c.2.e : Int), .int .u16 (c.2.p : Int)] = some [.int .u32 (c.1.a : Int), .int .u16 (c.1.e : Int), .int .u16 (c.1.p : Int), .int .u32 (c.2.a : Int), .int .u16 (c.2.e : Int), .int .u16 (c.2.p : Int)] := by
    rw [Program.keyLits.eq_def]
    simp only [u0]
    simp [c0, c1, l1, l2, List.range_succ]
  rw [this]
  exact ⟨_, rfl⟩
theorem zero_int (w : World) : (zeroValue 3).run Tryz.prog w = .ok (.int .i64 0) w := by kernel_rfl
/-- what 'm[c]++' has done, whatever was done first -/
def LinkI (w0 : World) (b gx gy n : Nat) (x y : K) (v0 : Nat) (G : K × K → Option Nat) (L : Nat → Bool) (V : Nat → Value) (w : World) : Prop :=
  w0.grownBy w (some b) ∧ (L 0 = true → V 0 = .map (some b)) ∧ (L 1 = true → V 1 = .agg #[.int .u32 (x.a : Int), .int .u16 (x.e : Int), .int .u16 (x.p : Int)]) ∧ (L 2 = true → V 2 = .agg #[.int .u32 (y.a : Int), .int .u16 (y.e : Int), .int .u16 (y.p : Int)]) ∧ (L 3 = true → V 3 = pval (x, y)) ∧
  (L 4 = true → V 4 = .int .i64 (v0 : Int)) ∧ (L 5 = true → V 5 = .int .i64 ((v0 : Int) + 1)) ∧ (L 6 = false → w.heap[b]? = w0.heap[b]?) ∧
  (L 6 = true → ∃ (u : Value) (st : Nat) (es1 : Array MapEntry) (clock1 : Nat), V 6 = .tuple #[u, goInt st] ∧ (L 7 = true → V 7 = goInt st) ∧ (L 8 = false → w.heap[b]? = some (.map es1 clock1)) ∧
    (∀ w1 : World, w1.heap[b]? = some (.map es1 clock1) → (Instr.lookup 51 (.map (some b)) (pval (x, y)) false).run Tryz.prog w1 = .ok (.int .i64 (v0 : Int)) w1) ∧
    ∀ (w2 : World) (v : Nat), w2.heap[b]? = some (.map es1 clock1) → ∃ w3, (Instr.entryStore 51 (.map (some b)) (goInt st) (lval v)).run Tryz.prog w2 = .ok () w3 ∧ MapIs w3 Tryz.prog 49 pval lval b (n + 1) (fun d => if d = (x, y) then some v else G d) ∧ w2.grownBy w3 (some b)) ∧
  (L 7 = true → L 6 = true) ∧ (L 8 = true → L 6 = true) ∧ (L 8 = true → L 4 = true) ∧ (L 8 = true → MapIs w Tryz.prog 49 pval lval b (n + 1) (fun d => if d = (x, y) then some (v0 + 1) else G d))
set_option maxRecDepth 100000 in
set_option maxHeartbeats 4000000 in
theorem link_any (b n : Nat) (G : K × K → Option Nat) (x y : K) (hx : x.ok) (hy : y.ok) (v0 : Nat) (hv : (G (x, y)).getD 0 = v0) (hv1 : v0 ≤ 1000) (hn : n ≤ 1000) (w : World) (hM : MapIs w Tryz.prog 49 pval lval b n G) :
    Calls Tryz.prog 15 #[.map (some b), x.val, y.val] w fun e w' => e = .returned (.tuple #[]) ∧ MapIs w' Tryz.prog 49 pval lval b (n + 1) (fun d => if d = (x, y) then some (v0 + 1) else G d) ∧ w.grownBy w' (some b) := by
  obtain ⟨kl, hkey⟩ := pair_of (x, y) hx hy
  have hval : getV lval (.int .i64 0) (G (x, y)) = .int .i64 (v0 : Int) := by
    cases h : G (x, y) with
    | none => rw [h] at hv; simp at hv; subst hv; rfl
    | some v => rw [h] at hv; simp at hv; subst hv; rfl
  have hb := hM.lt
  have RX := (Row.new w #[.int .u32 (x.a : Int), .int .u16 (x.e : Int), .int .u16 (x.p : Int)] 29).alloc (.cells #[.int .u32 (y.a : Int), .int .u16 (y.e : Int), .int .u16 (y.p : Int)] 29)
  have RY := Row.new' (w.alloc (.cells #[.int .u32 (x.a : Int), .int .u16 (x.e : Int), .int .u16 (x.p : Int)] 29)) #[.int .u32 (y.a : Int), .int .u16 (y.e : Int), .int .u16 (y.p : Int)] 29 (g := w.heap.size + 1) (by simp)
  have hg0 : w.grownBy ((w.alloc (.cells #[.int .u32 (x.a : Int), .int .u16 (x.e : Int), .int .u16 (x.p : Int)] 29)).alloc (.cells #[.int .u32 (y.a : Int), .int .u16 (y.e : Int), .int .u16 (y.p : Int)] 29)) (some b) := (World.grownBy_alloc _ _ _).trans (World.grownBy_alloc _ _ _)
  have hM2 : MapIs ((w.alloc (.cells #[.int .u32 (x.a : Int), .int .u16 (x.e : Int), .int .u16 (x.p : Int)] 29)).alloc (.cells #[.int .u32 (y.a : Int), .int .u16 (y.e : Int), .int .u16 (y.p : Int)] 29)) Tryz.prog 49 pval lval b n G := hM.below (below_alloc (below_alloc (Below.refl _ w) _) _)
  have HK := Lib.hid hkey
  have HV := Lib.hid hval
  have HL1 := Lib.hid hv1
  have HN := Lib.hid hn
  have HG0 := Lib.hid hg0
  have HM2 := Lib.hid hM2
  clear hM hkey hval hv hv1 hn hx hy hg0 hM2
  have hne : ∀ W : World, (Go.binOp BinOp.neq 51 (.map (some b)) (.map none)).run Tryz.prog W = .ok (.bool true) W := fun W => by kernel_rfl
  unfold K.val
  go_enter Tryz.func15, Tryz.ntmps15
  go_wp2_with fail
  obtain ⟨gx, hgx⟩ : ∃ g, g = w.heap.size := ⟨_, rfl⟩
  obtain ⟨gy, hgy⟩ : ∃ g, g = w.heap.size + 1 := ⟨_, rfl⟩
  rw [← hgx] at RX
  rw [← hgy] at RY
  rw [← hgy, ← hgx]
  generalize (w.alloc (.cells #[.int .u32 (x.a : Int), .int .u16 (x.e : Int), .int .u16 (x.p : Int)] 29)).alloc (.cells #[.int .u32 (y.a : Int), .int .u16 (y.e : Int), .int .u16 (y.p : Int)] 29) = w2 at *
  have hbx : b ≠ gx := by omega
  have hby : b ≠ gy := by omega
  have hM := HM2.out
  have HL : ∀ w1 : World, w1.heap[b]? = w2.heap[b]? → (Instr.lookup 51 (.map (some b)) (pval (x, y)) false).run Tryz.prog w1 = .ok (.int .i64 (v0 : Int)) w1 := fun w1 h1 => by
    have h := MapIs.look (enc := pval) (vl := lval) (G := G) (n := n) (e := 3) (t := 51) (w := w1) (by obtain ⟨es, clock, h2, h3⟩ := hM; exact ⟨es, clock, h1.trans h2, h3⟩) (Keyed.of_law lawPair) Tryz.underlying51 pval_inj (zero_int w1) (x, y) HK.out
    rw [h, HV.out]
  have HE : ∀ w1 : World, w1.heap[b]? = w2.heap[b]? → ∃ (u : Value) (st : Nat) (es1 : Array MapEntry) (clock1 : Nat), (Instr.mapEntry 51 (.map (some b)) (pval (x, y))).run Tryz.prog w1 = .ok (.tuple #[u, goInt st]) (ChangeMaps.setBlock w1 b (.map es1 clock1)) ∧
      (∀ w1 : World, w1.heap[b]? = some (.map es1 clock1) → (Instr.lookup 51 (.map (some b)) (pval (x, y)) false).run Tryz.prog w1 = .ok (.int .i64 (v0 : Int)) w1) ∧
      ∀ (w2 : World) (v : Nat), w2.heap[b]? = some (.map es1 clock1) → ∃ w3, (Instr.entryStore 51 (.map (some b)) (goInt st) (lval v)).run Tryz.prog w2 = .ok () w3 ∧ MapIs w3 Tryz.prog 49 pval lval b (n + 1) (fun d => if d = (x, y) then some v else G d) ∧ w2.grownBy w3 (some b) := fun w1 h1 => by
    have h := MapIs.entry (enc := pval) (vl := lval) (G := G) (n := n) (e := 3) (t := 51) (v0 := 0) (w := w1) (by obtain ⟨es, clock, h2, h3⟩ := hM; exact ⟨es, clock, h1.trans h2, h3⟩) lawPair (Keyed.of_law lawPair) Tryz.underlying51 pval_inj (z := .int .i64 0) rfl zero_int (by have := HN.out; unfold maxLen; omega) (x, y) HK.out
    rw [HV.out] at h
    exact h
  have ev : IntKind.i64.wrap ((v0 : Int) + 1) = (v0 : Int) + 1 := by have := HL1.out; rw [IntKind.wrap_i64]; omega
  clear hgx hgy hb HM2
  refine region_inv (n := 9) (by kernel_rfl) (LinkI w2 b gx gy n x y v0 G) (by kernel_rfl) ?_ ?_ rfl ?_
  · refine ⟨⟨rfl, rfl, rfl, Nat.le_refl _, fun _ _ _ => rfl⟩, ?_⟩
    refine ⟨?_, ?_, ?_, ?_, ?_, ?_, fun _ => rfl, ?_, ?_, ?_, ?_, ?_⟩ <;> (intro h; simp at h)
  · intro i o ho
    rcases i with _ | _ | _ | _ | _ | _ | _ | _ | _ | i
    all_goals (first | (simp at ho; done) | (obtain rfl := Option.some.inj ho))
    all_goals (rintro L V wx hL hpre ⟨J, K0, K1, K2, K3, K4, K5, M0, M6, A7, A8, B8, MZ⟩ a hdef hev hold)
    · have X0 : a.tmps[0]?.getD undef = .map (some b) := by
        have h := hold 0 (by simp) (by intro j hj; rcases j with _ | _ | _ | _ | _ | _ | _ | _ | _ | j <;> simp [dstAt])
        simpa [go_sem] using h
      exact st_val ho rfl (v := .map (some b)) (by go_simp) ⟨J, by simp [updV], by simpa [Upd, updV] using K1, by simpa [Upd, updV] using K2, by simpa [Upd, updV] using K3, by simpa [Upd, updV] using K4, by simpa [Upd, updV] using K5, by simpa [Upd, updV] using M0, by simpa [Upd, updV] using M6, by simpa [Upd, updV] using A7, by simpa [Upd, updV] using A8, by simpa [Upd, updV] using B8, by simpa [Upd, updV] using MZ⟩
    · have X := hold 4 (by simp) (by intro j hj; rcases j with _ | _ | _ | _ | _ | _ | _ | _ | _ | j <;> simp [dstAt])
      have R : Row wx gx #[.int .u32 (x.a : Int), .int .u16 (x.e : Int), .int .u16 (x.p : Int)] 29 := (J.block gx RX.lt (by intro h; injection h with h; omega)).trans RX
      exact st_load ho rfl 29 _ rfl gx X R _ Tryz.underlying29 rfl (by kernel_rfl) ⟨J, by simpa [Upd, updV] using K0, by simp [updV], by simpa [Upd, updV] using K2, by simpa [Upd, updV] using K3, by simpa [Upd, updV] using K4, by simpa [Upd, updV] using K5, by simpa [Upd, updV] using M0, by simpa [Upd, updV] using M6, by simpa [Upd, updV] using A7, by simpa [Upd, updV] using A8, by simpa [Upd, updV] using B8, by simpa [Upd, updV] using MZ⟩
    · have X := hold 5 (by simp) (by intro j hj; rcases j with _ | _ | _ | _ | _ | _ | _ | _ | _ | j <;> simp [dstAt])
      have R : Row wx gy #[.int .u32 (y.a : Int), .int .u16 (y.e : Int), .int .u16 (y.p : Int)] 29 := (J.block gy RY.lt (by intro h; injection h with h; omega)).trans RY
      exact st_load ho rfl 29 _ rfl gy X R _ Tryz.underlying29 rfl (by kernel_rfl) ⟨J, by simpa [Upd, updV] using K0, by simpa [Upd, updV] using K1, by simp [updV], by simpa [Upd, updV] using K3, by simpa [Upd, updV] using K4, by simpa [Upd, updV] using K5, by simpa [Upd, updV] using M0, by simpa [Upd, updV] using M6, by simpa [Upd, updV] using A7, by simpa [Upd, updV] using A8, by simpa [Upd, updV] using B8, by simpa [Upd, updV] using MZ⟩
    · have p1 := hpre 1 (by decide)
      have E1 := (hev 1 9 p1 rfl (by simp) (by simp)).trans (K1 p1)
      have p2 := hpre 2 (by decide)
      have E2 := (hev 2 10 p2 rfl (by simp) (by simp)).trans (K2 p2)
      have e1 : a.tmps[9]?.getD undef = .agg #[.int .u32 (x.a : Int), .int .u16 (x.e : Int), .int .u16 (x.p : Int)] := by simpa [go_sem] using E1
      have e2 : a.tmps[10]?.getD undef = .agg #[.int .u32 (y.a : Int), .int .u16 (y.e : Int), .int .u16 (y.p : Int)] := by simpa [go_sem] using E2
      exact st_val ho rfl (v := pval (x, y)) (by unfold pval; go_simp) ⟨J, by simpa [Upd, updV] using K0, by simpa [Upd, updV] using K1, by simpa [Upd, updV] using K2, by simp [updV], by simpa [Upd, updV] using K4, by simpa [Upd, updV] using K5, by simpa [Upd, updV] using M0, by simpa [Upd, updV] using M6, by simpa [Upd, updV] using A7, by simpa [Upd, updV] using A8, by simpa [Upd, updV] using B8, by simpa [Upd, updV] using MZ⟩
    · have p0 := hpre 0 (by decide)
      have E0 := (hev 0 8 p0 rfl (by simp) (by simp)).trans (K0 p0)
      have p3 := hpre 3 (by decide)
      have E3 := (hev 3 11 p3 rfl (by simp) (by simp)).trans (K3 p3)
      have e0 : a.tmps[8]?.getD undef = .map (some b) := by simpa [go_sem] using E0
      have e3 : a.tmps[11]?.getD undef = pval (x, y) := by simpa [go_sem] using E3
      have hl : (Instr.lookup 51 (.map (some b)) (pval (x, y)) false).run Tryz.prog wx = .ok (.int .i64 (v0 : Int)) wx := by
        cases h6 : L 6 with
        | false => exact HL wx (M0 h6)
        | true =>
          obtain ⟨u, st, es1, clock1, _, _, h3, h4, _⟩ := M6 h6
          cases h8 : L 8 with
          | false => exact h4 wx (h3 h8)
          | true => exact absurd (B8 h8) (by rw [hL]; simp)
      exact st_val ho rfl (v := .int .i64 (v0 : Int)) (by go_simp) ⟨J, by simpa [Upd, updV] using K0, by simpa [Upd, updV] using K1, by simpa [Upd, updV] using K2, by simpa [Upd, updV] using K3, by simp [updV], by simpa [Upd, updV] using K5, by simpa [Upd, updV] using M0, by simpa [Upd, updV] using M6, by simpa [Upd, updV] using A7, by simpa [Upd, updV] using A8, fun h => by simp [Upd], by simpa [Upd, updV] using MZ⟩
    · have p4 := hpre 4 (by decide)
      have E4 := (hev 4 12 p4 rfl (by simp) (by simp)).trans (K4 p4)
      have e4 : a.tmps[12]?.getD undef = .int .i64 (v0 : Int) := by simpa [go_sem] using E4
      exact st_val ho rfl (v := .int .i64 ((v0 : Int) + 1)) (by go_simp) ⟨J, by simpa [Upd, updV] using K0, by simpa [Upd, updV] using K1, by simpa [Upd, updV] using K2, by simpa [Upd, updV] using K3, by simpa [Upd, updV] using K4, by simp [updV], by simpa [Upd, updV] using M0, by simpa [Upd, updV] using M6, by simpa [Upd, updV] using A7, by simpa [Upd, updV] using A8, by simpa [Upd, updV] using B8, by simpa [Upd, updV] using MZ⟩
    · have p0 := hpre 0 (by decide)
      have E0 := (hev 0 8 p0 rfl (by simp) (by simp)).trans (K0 p0)
      have p3 := hpre 3 (by decide)
      have E3 := (hev 3 11 p3 rfl (by simp) (by simp)).trans (K3 p3)
      have e0 : a.tmps[8]?.getD undef = .map (some b) := by simpa [go_sem] using E0
      have e3 : a.tmps[11]?.getD undef = pval (x, y) := by simpa [go_sem] using E3
      obtain ⟨u, st, es1, clock1, hr, h4, h5⟩ := HE wx (M0 hL)
      have hb : ∃ es clock, wx.heap[b]? = some (.map es clock) := by rw [M0 hL]; obtain ⟨es, clock, h, _⟩ := hM; exact ⟨es, clock, h⟩
      obtain ⟨es, clock, hb⟩ := hb
      exact st_val ho rfl (v := .tuple #[u, goInt st]) (w1 := ChangeMaps.setBlock wx b (.map es1 clock1)) (by go_simp) ⟨J.trans ⟨rfl, rfl, rfl, by simp [ChangeMaps.setBlock], fun i _ hi => ChangeMaps.heap_setBlock_other hb _ (fun e => hi (by rw [e]))⟩, by simpa [Upd, updV] using K0, by simpa [Upd, updV] using K1, by simpa [Upd, updV] using K2, by simpa [Upd, updV] using K3, by simpa [Upd, updV] using K4, by simpa [Upd, updV] using K5, fun h => by simp [Upd] at h, fun _ => ⟨u, st, es1, clock1, by simp [updV], fun h => absurd (A7 (by simpa [Upd] using h)) (by rw [hL]; simp), fun _ => ChangeMaps.heap_setBlock_same hb _, h4, h5⟩, fun _ => by simp [Upd], fun _ => by simp [Upd], by simpa [Upd, updV] using B8, fun h => absurd (A8 (by simpa [Upd] using h)) (by rw [hL]; simp)⟩
    · have p6 := hpre 6 (by decide)
      obtain ⟨u, st, es1, clock1, h1, h2, h3, h4, h5⟩ := M6 p6
      have E6 := (hev 6 14 p6 rfl (by simp) (by simp)).trans h1
      have e6 : a.tmps[14]?.getD undef = .tuple #[u, goInt st] := by simpa [go_sem] using E6
      exact st_val ho rfl (v := goInt st) (by go_simp) ⟨J, by simpa [Upd, updV] using K0, by simpa [Upd, updV] using K1, by simpa [Upd, updV] using K2, by simpa [Upd, updV] using K3, by simpa [Upd, updV] using K4, by simpa [Upd, updV] using K5, by simpa [Upd, updV] using M0, fun _ => ⟨u, st, es1, clock1, by simpa [updV] using h1, fun _ => by simp [updV], by simpa [Upd] using h3, h4, h5⟩, fun _ => by simp [Upd, p6], by simpa [Upd, updV] using A8, by simpa [Upd, updV] using B8, by simpa [Upd, updV] using MZ⟩
    · have p0 := hpre 0 (by decide)
      have E0 := (hev 0 8 p0 rfl (by simp) (by simp)).trans (K0 p0)
      have p5 := hpre 5 (by decide)
      have E5 := (hev 5 13 p5 rfl (by simp) (by simp)).trans (K5 p5)
      have p4 := hpre 4 (by decide)
      have p6 := hpre 6 (by decide)
      have p7 := hpre 7 (by decide)
      obtain ⟨u, st, es1, clock1, h1, h2, h3, h4, h5⟩ := M6 p6
      have E7 := (hev 7 15 p7 rfl (by simp) (by simp)).trans (h2 p7)
      obtain ⟨w3, hr, hM3, hg⟩ := h5 wx (v0 + 1) (h3 hL)
      have e0 : a.tmps[8]?.getD undef = .map (some b) := by simpa [go_sem] using E0
      have e5 : a.tmps[13]?.getD undef = .int .i64 ((v0 : Int) + 1) := by simpa [go_sem] using E5
      have e7 : a.tmps[15]?.getD undef = goInt st := by simpa [go_sem] using E7
      have hr' : (Instr.entryStore 51 (.map (some b)) (.int .i64 (st : Int)) (.int .i64 ((v0 : Int) + 1))).run Tryz.prog wx = .ok () w3 := hr
      exact st_skip ho rfl (w1 := w3) (by go_simp) ⟨J.trans hg, by simpa [Upd, updV] using K0, by simpa [Upd, updV] using K1, by simpa [Upd, updV] using K2, by simpa [Upd, updV] using K3, by simpa [Upd, updV] using K4, by simpa [Upd, updV] using K5, fun h => by simp [Upd, p6] at h, fun _ => ⟨u, st, es1, clock1, by simpa [updV] using h1, by simpa [Upd, updV] using h2, fun h => by simp [Upd] at h, h4, h5⟩, by simpa [Upd, updV] using A7, fun _ => by simp [Upd, p6], fun _ => by simp [Upd, p4], fun _ => hM3⟩
  · rintro V wx ⟨J, K0, K1, K2, K3, K4, K5, M0, M6, A7, A8, B8, MZ⟩
    have hz := MZ rfl
    have hj := HG0.out.trans J
    clear M0 M6 A7 A8 B8 MZ J HL HE hM
    simp only [fill, if_true, dstAt]
    simp [Act.put]
    go_wp2
    go_end0
    exact ⟨rfl, hz, hj⟩
end Go.Proofs.YtahagfdjpldblaaGreatDoor

namespace Go.Proofs.YtahagfdjpldblaaGreatDoor
open Go.RowKit Ky Go.Lib Go.Sort
set_option linter.unusedVariables false
set_option linter.unusedSimpArgs false

/-- w' is W, some draws and some new blocks later -/
def Gr (W w' : World) : Prop := ∃ q os', w' = grow (W.drewN q) os'
theorem Gr.refl (W : World) : Gr W W := ⟨0, #[], by simp [grow, World.drewN]⟩
theorem Gr.alloc {W w' : World} (h : Gr W w') (o : Obj) : Gr W (w'.alloc o) := by
  obtain ⟨q, os, rfl⟩ := h
  exact ⟨q, os ++ #[o], by rw [alloc_eq_grow, grow_grow]⟩
theorem Gr.drew {W w' : World} (h : Gr W w') : Gr W w'.drew := by
  obtain ⟨q, os, rfl⟩ := h
  exact ⟨q + 1, os, rfl⟩
theorem Gr.trans {a b c : World} (h : Gr a b) (k : Gr b c) : Gr a c := by
  obtain ⟨q, os, rfl⟩ := h
  obtain ⟨q', os', rfl⟩ := k
  exact ⟨q + q', os ++ os', by rw [← World.drewN_drewN, ← grow_grow]; rfl⟩
theorem Gr.below {W w' : World} (h : Gr W w') : Below W.heap.size W w' := by
  obtain ⟨q, os, rfl⟩ := h
  exact below_grow W.heap.size W (Nat.le_refl _) q os
theorem pack_gr (k : K) (hk : k.ok) (w : World) : Calls Tryz.prog 22 #[k.val] w fun r w' => r = .returned (.int .u64 ((k.num : Nat) : Int)) ∧ Gr w w' := by
  obtain ⟨ha, he, hp⟩ := hk
  unfold K.val
  go_enter Tryz.func22, Tryz.ntmps22
  go_wp2
  go_ret
  exact ⟨ret_int (pack_bits k.a k.e k.p ha he hp), (Gr.refl w).alloc _⟩
set_option maxHeartbeats 1000000 in
theorem compare_gr (x y : K) (hx : x.ok) (hy : y.ok) (w : World) : Calls Tryz.prog 27 #[x.val, y.val] w fun r w' => r = .returned (.int .i64 (Ky.cmp x.num y.num)) ∧ Gr w w' := by
  have PX := Lib.hid (pack_gr x hx)
  have PY := Lib.hid (pack_gr y hy)
  have CM := Lib.hid (cmp_u64 x.num y.num)
  unfold K.val at *
  generalize Ky.cmp x.num y.num = c at *
  generalize ((x.num : Nat) : Int) = nx at *
  generalize ((y.num : Nat) : Int) = ny at *
  go_enter Tryz.func27, Tryz.ntmps27
  go_wp2_with fail
  have RA := (Row.new w #[.int .u32 (x.a : Int), .int .u16 (x.e : Int), .int .u16 (x.p : Int)] 29).alloc (.cells #[.int .u32 (y.a : Int), .int .u16 (y.e : Int), .int .u16 (y.p : Int)] 29)
  have RB := Row.new' (w.alloc (.cells #[.int .u32 (x.a : Int), .int .u16 (x.e : Int), .int .u16 (x.p : Int)] 29)) #[.int .u32 (y.a : Int), .int .u16 (y.e : Int), .int .u16 (y.p : Int)] 29 (g := w.heap.size + 1) (by simp)
  have hB := Gr.alloc (Gr.alloc (Gr.refl w) (.cells #[.int .u32 (x.a : Int), .int .u16 (x.e : Int), .int .u16 (x.p : Int)] 29)) (.cells #[.int .u32 (y.a : Int), .int .u16 (y.e : Int), .int .u16 (y.p : Int)] 29)
  generalize (w.alloc (.cells #[.int .u32 (x.a : Int), .int .u16 (x.e : Int), .int .u16 (x.p : Int)] 29)).alloc (.cells #[.int .u32 (y.a : Int), .int .u16 (y.e : Int), .int .u16 (y.p : Int)] 29) = w2 at *
  obtain ⟨g, hg⟩ : ∃ g, g = w.heap.size := ⟨_, rfl⟩
  obtain ⟨g', hg'⟩ : ∃ g', g' = w.heap.size + 1 := ⟨_, rfl⟩
  rw [← hg] at RA
  rw [← hg'] at RB
  rw [← hg', ← hg]
  have a0 : w2.cell? ⟨g, 0, none⟩ = some (.int .u32 (x.a : Int)) := RA.cell 0
  have a1 : w2.cell? ⟨g, 1, none⟩ = some (.int .u16 (x.e : Int)) := RA.cell 1
  have a2 : w2.cell? ⟨g, 2, none⟩ = some (.int .u16 (x.p : Int)) := RA.cell 2
  have b0 : w2.cell? ⟨g', 0, none⟩ = some (.int .u32 (y.a : Int)) := RB.cell 0
  have b1 : w2.cell? ⟨g', 1, none⟩ = some (.int .u16 (y.e : Int)) := RB.cell 1
  have b2 : w2.cell? ⟨g', 2, none⟩ = some (.int .u16 (y.p : Int)) := RB.cell 2
  clear RA RB hg hg'
  go_region_held3 (fun w' => Gr w w' ∧ w'.cell? ⟨g, 0, none⟩ = some (.int .u32 (x.a : Int)) ∧ w'.cell? ⟨g, 1, none⟩ = some (.int .u16 (x.e : Int)) ∧ w'.cell? ⟨g, 2, none⟩ = some (.int .u16 (x.p : Int)) ∧ w'.cell? ⟨g', 0, none⟩ = some (.int .u32 (y.a : Int)) ∧ w'.cell? ⟨g', 1, none⟩ = some (.int .u16 (y.e : Int)) ∧ w'.cell? ⟨g', 2, none⟩ = some (.int .u16 (y.p : Int))) (refine ⟨?_, ?_, ?_, ?_, ?_, ?_, ?_⟩ <;> first | assumption | exact hB.drew | exact a0 | exact a1 | exact a2 | exact b0 | exact b1 | exact b2 | simp [go_sem, *]) (first | (go_at_call 22; rename_i hHeld _ _; ((with_reducible refine (PX.out _).mono ?_)); rintro e wx ⟨rfl, hg2⟩; have HB := hHeld.1.trans hg2; have hb := hg2.below; have HC1 := cell_then hHeld.2.1 hb; have HC2 := cell_then hHeld.2.2.1 hb; have HC3 := cell_then hHeld.2.2.2.1 hb; have HC4 := cell_then hHeld.2.2.2.2.1 hb; have HC5 := cell_then hHeld.2.2.2.2.2.1 hb; have HC6 := cell_then hHeld.2.2.2.2.2.2 hb; clear hb hg2 hHeld) | (go_at_call 22; rename_i hHeld _ _; ((with_reducible refine (PY.out _).mono ?_)); rintro e wx ⟨rfl, hg2⟩; have HB := hHeld.1.trans hg2; have hb := hg2.below; have HC1 := cell_then hHeld.2.1 hb; have HC2 := cell_then hHeld.2.2.1 hb; have HC3 := cell_then hHeld.2.2.2.1 hb; have HC4 := cell_then hHeld.2.2.2.2.1 hb; have HC5 := cell_then hHeld.2.2.2.2.2.1 hb; have HC6 := cell_then hHeld.2.2.2.2.2.2 hb; clear hb hg2 hHeld) | (go_at_call 36; rename_i hHeld _ _; ((with_reducible refine (CM.out _).mono ?_)); rintro e wx ⟨rfl, rfl⟩))
  rename_i hHeld
  have BB := hHeld.1
  clear hHeld
  go_wp2
  go_ret
  exact ⟨rfl, BB⟩
end Go.Proofs.YtahagfdjpldblaaGreatDoor

namespace Go.Proofs.YtahagfdjpldblaaGreatDoor
open Go.RowKit Ky
open Go.Maps (Keyed)
set_option linter.unusedVariables false
set_option linter.unusedSimpArgs false

theorem link_none (x y : K) (w : World) : Calls Tryz.prog 15 #[.map none, x.val, y.val] w fun e w' => e = .returned (.tuple #[]) ∧ Below w.heap.size w w' := by
  have hne : ∀ W : World, (Go.binOp BinOp.neq 51 (.map none) (.map none)).run Tryz.prog W = .ok (.bool false) W := fun W => by kernel_rfl
  unfold K.val
  go_enter Tryz.func15, Tryz.ntmps15
  go_wp2
  go_end0
  exact ⟨rfl, below_alloc (below_alloc (Below.refl _ w) _) _⟩
theorem many_any (b n : Nat) (G : K × K → Option Nat) (x y : K) (hx : x.ok) (hy : y.ok) (w : World) (hM : MapIs w Tryz.prog 49 pval lval b n G) :
    Calls Tryz.prog 17 #[.map (some b), x.val, y.val] w fun e w' => e = .returned (.int .i64 (((G (x, y)).getD 0 : Nat) : Int)) ∧ Below w.heap.size w w' := by
  obtain ⟨kl, hkey⟩ := pair_of (x, y) hx hy
  have hval : getV lval (.int .i64 0) (G (x, y)) = .int .i64 (((G (x, y)).getD 0 : Nat) : Int) := by
    cases h : G (x, y) <;> rfl
  have hB := below_alloc (below_alloc (Below.refl _ w) (.cells #[.int .u32 (x.a : Int), .int .u16 (x.e : Int), .int .u16 (x.p : Int)] 29)) (.cells #[.int .u32 (y.a : Int), .int .u16 (y.e : Int), .int .u16 (y.p : Int)] 29)
  have hl := MapIs.look (enc := pval) (vl := lval) (G := G) (n := n) (e := 3) (t := 51) (hM.below hB) (Keyed.of_law lawPair) Tryz.underlying51 pval_inj (zero_int _) (x, y) hkey
  rw [hval] at hl
  unfold pval at hl
  dsimp only at hl
  have HB := Lib.hid hB
  clear hB hM hkey hval hx hy
  generalize (((G (x, y)).getD 0 : Nat) : Int) = v at *
  unfold K.val
  go_enter Tryz.func17, Tryz.ntmps17
  go_wp2
  go_ret
  exact ⟨rfl, HB.out⟩
theorem many_none (x y : K) (hx : x.ok) (hy : y.ok) (w : World) : Calls Tryz.prog 17 #[.map none, x.val, y.val] w fun e w' => e = .returned (.int .i64 0) ∧ Below w.heap.size w w' := by
  obtain ⟨kl, hkey⟩ := pair_of (x, y) hx hy
  have hl : ∀ W : World, (Instr.lookup 51 (.map none) (pval (x, y)) false).run Tryz.prog W = .ok (.int .i64 0) W := fun W => by
    have hf : (Instr.findKey 49 (pval (x, y)) []).run Tryz.prog W = .ok none W := by
      rcases (Keyed.of_law lawPair).find W hkey [] (by simp) with ⟨h, _⟩ | ⟨j, e0, _, h, _⟩
      · exact h
      · simp at h
    simp [Instr.lookup, run_underlying Tryz.underlying51, (Keyed.of_law lawPair).check W _ hkey, hf, zero_int, Result.andThen]
  unfold pval at hl
  dsimp only at hl
  have HB := Lib.hid (below_alloc (below_alloc (Below.refl _ w) (.cells #[.int .u32 (x.a : Int), .int .u16 (x.e : Int), .int .u16 (x.p : Int)] 29)) (.cells #[.int .u32 (y.a : Int), .int .u16 (y.e : Int), .int .u16 (y.p : Int)] 29))
  clear hkey hx hy
  unfold K.val
  go_enter Tryz.func17, Tryz.ntmps17
  go_wp2
  go_ret
  exact ⟨rfl, HB.out⟩
end Go.Proofs.YtahagfdjpldblaaGreatDoor
