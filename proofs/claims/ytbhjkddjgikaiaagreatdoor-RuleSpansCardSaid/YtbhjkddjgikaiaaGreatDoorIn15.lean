import Derived.Test.YtbhjkddjgikaiaaGreatDoorMrg35
import Derived.Test.YtbhjkddjgikaiaaGreatDoorOwnOf15
namespace Go.Proofs.YtbhjkddjgikaiaaGreatDoor
open Go.RowKit Go.ChangeShapes Go.WideShapes
set_option linter.unusedVariables false
set_option linter.unusedSimpArgs false
theorem list4o {α : Type} {l : List α} (h : l.length = 4) : ∃ a b c d, l = [a, b, c, d] := by
  match l, h with
  | [a, b, c, d], _ => exact ⟨a, b, c, d, rfl⟩
theorem list5o {α : Type} {l : List α} (h : l.length = 5) : ∃ a b c d e, l = [a, b, c, d, e] := by
  match l, h with
  | [a, b, c, d, e], _ => exact ⟨a, b, c, d, e, rfl⟩
section
variable {H : Type} {enc : TypeId × Value → H} {W : World} {base : Nat} {sp : Nat → Bool} {held : Bool}
theorem rd_u16 (n : Nat) (cs : List Value) (y : DataW H × List MemPlace) (h : DataW.trod enc Tryz.prog W base sp held n 34 cs = some y) : ∃ x : Int, (0 ≤ x ∧ x ≤ 65535) ∧ cs = [.int .u16 x] := by
  obtain ⟨z0, e0, _, b0⟩ := DataW.trod_int Tryz.underlying34 h
  have b0 := Go.bounds_u16 b0
  exact ⟨z0, by omega, e0⟩
theorem rd_a6 (n : Nat) (cs : List Value) (y : DataW H × List MemPlace) (h : DataW.trod enc Tryz.prog W base sp held n 191 cs = some y) : ∃ x : A6, x.ok ∧ cs = a6 x := by
  have c0 : Tryz.prog.cellsOf 191 = 4 := by kernel_rfl
  have c1 : Tryz.prog.cellsOf 5 = 1 := by kernel_rfl
  obtain ⟨xs, m, _, _, hl, hx, hf⟩ := DataW.trod_struct Tryz.underlying191 h
  rw [c0] at hl
  obtain ⟨x0, x1, x2, x3, rfl⟩ := list4o hl
  have g0 := hf 0 _ rfl
  have g1 := hf 1 _ rfl
  have g2 := hf 2 _ rfl
  have g3 := hf 3 _ rfl
  simp [c1] at g0 g1 g2 g3
  obtain ⟨y0, y1, y2, y3, rfl⟩ := list4o hx
  simp at g0 g1 g2 g3
  obtain ⟨z0, b0, e0⟩ := rd_u8 _ _ _ g0
  obtain ⟨z1, b1, e1⟩ := rd_u8 _ _ _ g1
  obtain ⟨z2, b2, e2⟩ := rd_u8 _ _ _ g2
  obtain ⟨z3, b3, e3⟩ := rd_u8 _ _ _ g3
  simp at e0 e1 e2 e3
  subst e0
  subst e1
  subst e2
  subst e3
  refine ⟨⟨z0.toNat, z1.toNat, z2.toNat, z3.toNat⟩, ⟨?_, ?_, ?_, ?_⟩, ?_⟩
  · show z0.toNat ≤ 255; omega
  · show z1.toNat ≤ 255; omega
  · show z2.toNat ≤ 255; omega
  · show z3.toNat ≤ 255; omega
  · unfold a6
    simp only
    rw [show ((z0.toNat : Nat) : Int) = z0 by omega, show ((z1.toNat : Nat) : Int) = z1 by omega, show ((z2.toNat : Nat) : Int) = z2 by omega, show ((z3.toNat : Nat) : Int) = z3 by omega]
theorem rd_l10 (n : Nat) (cs : List Value) (y : DataW H × List MemPlace) (h : DataW.trod enc Tryz.prog W base sp held n 205 cs = some y) : ∃ x : L10, x.ok ∧ cs = l10 x := by
  have c0 : Tryz.prog.cellsOf 205 = 4 := by kernel_rfl
  have c1 : Tryz.prog.cellsOf 5 = 1 := by kernel_rfl
  have c2 : Tryz.prog.cellsOf 2 = 1 := by kernel_rfl
  obtain ⟨xs, m, _, _, hl, hx, hf⟩ := DataW.trod_struct Tryz.underlying205 h
  rw [c0] at hl
  obtain ⟨x0, x1, x2, x3, rfl⟩ := list4o hl
  have g0 := hf 0 _ rfl
  have g1 := hf 1 _ rfl
  have g2 := hf 2 _ rfl
  have g3 := hf 3 _ rfl
  simp [c1, c2] at g0 g1 g2 g3
  obtain ⟨y0, y1, y2, y3, rfl⟩ := list4o hx
  simp at g0 g1 g2 g3
  obtain ⟨z0, b0, e0⟩ := rd_u8 _ _ _ g0
  obtain ⟨z1, b1, e1⟩ := rd_u8 _ _ _ g1
  obtain ⟨z2, b2, e2⟩ := rd_u8 _ _ _ g2
  obtain ⟨z3, e3, _, b3⟩ := DataW.trod_int Tryz.underlying2 g3
  have b3 := Go.bounds_i64 b3
  simp at e0 e1 e2 e3
  subst e0
  subst e1
  subst e2
  subst e3
  refine ⟨⟨z0.toNat, z1.toNat, z2.toNat, z3⟩, ⟨?_, ?_, ?_, ?_, ?_⟩, ?_⟩
  · show z0.toNat ≤ 255; omega
  · show z1.toNat ≤ 255; omega
  · show z2.toNat ≤ 255; omega
  · show _ ≤ z3; omega
  · show z3 ≤ _; omega
  · unfold l10
    simp only
    rw [show ((z0.toNat : Nat) : Int) = z0 by omega, show ((z1.toNat : Nat) : Int) = z1 by omega, show ((z2.toNat : Nat) : Int) = z2 by omega]
set_option maxRecDepth 100000 in
theorem rd_j10 (n : Nat) (cs : List Value) (y : DataW H × List MemPlace) (h : DataW.trod enc Tryz.prog W base sp held n 150 cs = some y) : ∃ x : J10, x.okW W ∧ cs = j10 x := by
  have c0 : Tryz.prog.cellsOf 150 = 2 := by kernel_rfl
  have c1 : Tryz.prog.cellsOf 5 = 1 := by kernel_rfl
  have c2 : Tryz.prog.cellsOf 148 = 1 := by kernel_rfl
  obtain ⟨xs, m, _, _, hl, hx, hf⟩ := DataW.trod_struct Tryz.underlying150 h
  rw [c0] at hl
  obtain ⟨x0, x1, rfl⟩ := list2o hl
  have g0 := hf 0 _ rfl
  have g1 := hf 1 _ rfl
  simp [c1, c2] at g0 g1
  obtain ⟨y0, y1, rfl⟩ := list2o hx
  simp at g0 g1
  obtain ⟨z0, b0, e0⟩ := rd_u8 _ _ _ g0
  obtain ⟨a4, k4, l4, e4, h4, E4, m4, n4⟩ := open_elsL l10 4 l100 _ Tryz.underlying148 (by kernel_rfl) (by omega) (fun _ => rfl) rd_l10 g1
  simp at e0 e4
  subst e0
  subst e4
  refine ⟨⟨z0.toNat, l4, a4, k4⟩, ⟨?_, h4, E4⟩, ?_⟩
  · show z0.toNat ≤ 255; omega
  · unfold j10
    simp only
    rw [show ((z0.toNat : Nat) : Int) = z0 by omega]
theorem els_ns (k : IntKind) {a : Option Addr} {cap : Nat} {l : List Int} (h : ElsAt (fun x : Int => [Value.int k x]) 1 0 W a l) : NsAt k W (.slice a l.length cap) l := by
  refine ⟨a, cap, rfl, ?_⟩
  rcases h with h | ⟨b, off, e, h⟩
  · exact .inl h
  · exact .inr ⟨b, off, e, fun i hi => by
      have := h i hi 0 _ rfl
      simpa using this⟩
set_option maxRecDepth 100000 in
theorem open_bk {r : Reach} {b0 : Nat} {v : Value} {d : DataW H} {ps : List MemPlace} (hval : Value.okWide Tryz.prog W r b0 62 v) (h : DataW.Trod enc Tryz.prog W base sp held 62 v d ps) :
    ∃ (a : Option Addr) (cap : Nat) (l : List A6) (pu : Option Addr) (cu : Nat) (lu : List Int) (first : Int) (pl : Option Addr) (cl : Nat) (long : List Int) (aj : Option Addr) (cj : Nat) (lj : List J10), v = .agg #[.slice a l.length cap, .slice pu lu.length cu, .int .i16 first, .slice pl long.length cl, .slice aj lj.length cj] ∧
      ElsAt a6 4 a60 W a l ∧ (∀ x ∈ l, x.ok) ∧ NsAt .u16 W (.slice pu lu.length cu) lu ∧ (∀ n ∈ lu, 0 ≤ n ∧ n ≤ 65535) ∧ (-32768 ≤ first ∧ first ≤ 32767) ∧ (∀ n ∈ long, 0 ≤ n ∧ n ≤ 255) ∧ NsAt .u8 W (.slice pl long.length cl) long ∧ ElsAt j10 2 j100 W aj lj ∧ (∀ x ∈ lj, x.okW W) ∧ lj.length ≤ 9223372036854775807 := by
  obtain ⟨cs, rfl, hsz⟩ := okWide_struct Tryz.underlying62 hval
  obtain ⟨n, h⟩ := h
  have c0 : Tryz.prog.cellsOf 62 = 5 := by kernel_rfl
  have c1 : Tryz.prog.cellsOf 58 = 1 := by kernel_rfl
  have c2 : Tryz.prog.cellsOf 59 = 1 := by kernel_rfl
  have c3 : Tryz.prog.cellsOf 36 = 1 := by kernel_rfl
  have c4 : Tryz.prog.cellsOf 22 = 1 := by kernel_rfl
  have c5 : Tryz.prog.cellsOf 60 = 1 := by kernel_rfl
  obtain ⟨xs, m, _, _, hl, hx, hf⟩ := DataW.trod_struct Tryz.underlying62 h
  rw [c0] at hl
  obtain ⟨x0, x1, x2, x3, x4, hcs⟩ := list5o hl
  have g0 := hf 0 _ rfl
  have g1 := hf 1 _ rfl
  have g2 := hf 2 _ rfl
  have g3 := hf 3 _ rfl
  have g4 := hf 4 _ rfl
  rw [hcs] at g0 g1 g2 g3 g4
  simp [c1, c2, c3, c4, c5] at g0 g1 g2 g3 g4
  obtain ⟨y0, y1, y2, y3, y4, rfl⟩ := list5o hx
  simp at g0 g1 g2 g3 g4
  obtain ⟨a0, k0, l0, e0, h0, E0, m0, n0⟩ := open_elsL a6 4 a60 _ Tryz.underlying58 (by kernel_rfl) (by omega) (fun _ => rfl) rd_a6 g0
  obtain ⟨a1, k1, l1, e1, h1, E1, m1, n1⟩ := open_elsL (fun x : Int => [Value.int .u16 x]) 1 0 _ Tryz.underlying59 (by kernel_rfl) (by omega) (fun _ => rfl) rd_u16 g1
  obtain ⟨z2, e2, _, b2⟩ := DataW.trod_int Tryz.underlying36 g2
  obtain ⟨a3, k3, l3, e3, h3, E3, m3, n3⟩ := open_elsL (fun x : Int => [Value.int .u8 x]) 1 0 _ Tryz.underlying22 (by kernel_rfl) (by omega) (fun _ => rfl) rd_u8 g3
  obtain ⟨a4, k4, l4, e4, h4, E4, m4, n4⟩ := open_elsL j10 2 j100 _ Tryz.underlying60 (by kernel_rfl) (by omega) (fun _ => rfl) rd_j10 g4
  have b2 := Go.bounds_i16 b2
  simp at e0 e1 e2 e3 e4
  subst e0
  subst e1
  subst e2
  subst e3
  subst e4
  simp only [maxLen] at n4
  refine ⟨a0, k0, l0, a1, k1, l1, z2, a3, k3, l3, a4, k4, l4, ?_, E0, h0, els_ns .u16 E1, h1, by omega, h3, els_ns .u8 E3, E4, h4, by omega⟩
  have e : cs = #[.slice a0 l0.length k0, .slice a1 l1.length k1, .int .i16 z2, .slice a3 l3.length k3, .slice a4 l4.length k4] := Array.toList_inj.1 hcs
  rw [e]
end
end Go.Proofs.YtbhjkddjgikaiaaGreatDoor
