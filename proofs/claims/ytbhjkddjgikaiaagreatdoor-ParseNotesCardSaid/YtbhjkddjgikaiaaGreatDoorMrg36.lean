/-
  Own texts, several in one (Raw13c, In13, Law13b).
-/
import Derived.Test.YtbhjkddjgikaiaaGreatDoorMrg35
import Derived.OpenShut
import Derived.Lib.SmallJoins
import Derived.Test.YtbhjkddjgikaiaaGreatDoorMrg34
import Derived.Test.YtbhjkddjgikaiaaGreatDoorMrg30
namespace Go.Proofs.YtbhjkddjgikaiaaGreatDoor
open Go.RowKit
set_option linter.unusedVariables false
set_option linter.unusedSimpArgs false
theorem raw_any (x : Sc.O) (hx : x.ok) (vp vl : Value) (w : World) (hP : PosAt w vp x.parts) (hL : NsAt .u8 w vl x.long) :
    Calls Tryz.prog 21 #[.agg (ov x vp vl).toArray] w fun e w' => ∃ v1 v2, e = .returned (.agg (opc (Sc.raw x) v1 v2).toArray) ∧ PtsAt w' v1 (Sc.raw x).parts ∧ NsAt .i32 w' v2 (Sc.raw x).starts ∧ Fresh w w' v1 ∧ Fresh w w' v2 ∧ Below w.heap.size w w' := by
  unfold Sc.raw
  by_cases h1 : x.kind % 8 = 1
  · rw [if_pos h1]; exact raw13_1 x hx vp vl w hP hL h1
  · rw [if_neg h1]
    by_cases h4 : x.kind % 8 = 4
    · rw [if_pos h4]; exact raw13_4 x hx vp vl w hP hL h4
    · rw [if_neg h4]
      by_cases h7 : x.kind % 8 = 7
      · rw [if_pos h7]; exact raw13_7 x hx vp vl w hP hL h7
      · rw [if_neg h7]
        by_cases h2 : x.kind % 8 = 2
        · rw [if_pos h2]; exact raw13_2 x hx vp vl w hP hL h2
        · rw [if_neg h2]; exact raw13_0 x hx vp vl w hP hL _ rfl h1 h4 h7 h2
namespace Sc
theorem name6_mem (n : Nat) : name6 n ∈ names6 := by
  unfold name6
  exact getD_mem (show n % 5 < names6.length by show n % 5 < 5; omega)
theorem name6_len (n : Nat) : (name6 n).length ≤ 30 := by
  have h : ∀ x ∈ names6, x.length ≤ 30 := by decide
  exact h _ (name6_mem n)
theorem raw_pos (x : O) : (raw x).pos = 0 := by
  unfold raw raw1 raw2 raw4 raw7 raw0
  repeat' split
  all_goals rfl
theorem raw_can (x : O) (hx : x.ok) : (raw x).can := by
  have ha := hx.a
  have hb := hx.b
  unfold raw
  split
  · exact ⟨by show 1 < 8; omega, by show 1 + x.a ≤ _; omega, by show 0 ≤ _; omega, by show (name6 x.nm).length ≤ _; have := name6_len x.nm; omega, ⟨fun h => (by cases h), by show 0 ≤ 100; omega, fun p hp => by cases hp⟩, by show 0 ≤ 100; omega, by show 0 ≤ _; omega⟩
  · split
    · refine ⟨by show 4 < 8; omega, by show 1 + x.a ≤ _; omega, by show 0 ≤ _; omega, by show 0 ≤ _; omega, ⟨fun _ => by show 0 < ((1 + x.b, 1) :: (x.parts.take 7).map rawPt).length; rw [List.length_cons]; omega, ?_, ?_⟩, by show 0 ≤ 100; omega, by show 0 ≤ _; omega⟩
      · show ((1 + x.b, 1) :: (x.parts.take 7).map rawPt).length ≤ 100
        rw [List.length_cons, List.length_map, List.length_take]
        omega
      · intro p hp
        have hp : p ∈ (1 + x.b, 1) :: (x.parts.take 7).map rawPt := hp
        rcases List.mem_cons.1 hp with rfl | hp
        · exact ⟨by show 1 + x.b ≤ _; omega, by show 1 ≤ _; omega⟩
        · obtain ⟨q, hq, rfl⟩ := List.mem_map.1 hp
          have := hx.parts q (List.mem_of_mem_take hq)
          exact ⟨by show 1 + q.1 ≤ _; omega, by show 1 + q.2 % 1000000 ≤ _; omega⟩
    · split
      · refine ⟨by show 7 < 8; omega, by show 0 ≤ _; omega, by show 0 ≤ _; omega, by show 0 ≤ _; omega, ⟨fun h => (by cases h), by show 0 ≤ 100; omega, fun p hp => by cases hp⟩, ?_, by show 0 ≤ _; omega⟩
        show (mkStarts x.first x.long (min x.long.length 12)).length ≤ 100
        unfold mkStarts
        rw [List.length_map, List.length_range]
        omega
      · split
        · exact ⟨by show 2 < 8; omega, by show 1 + x.a ≤ _; omega, by show x.b ≤ _; omega, by show 0 ≤ _; omega, ⟨fun h => (by cases h), by show 0 ≤ 100; omega, fun p hp => by cases hp⟩, by show 0 ≤ 100; omega, by show 0 ≤ _; omega⟩
        · rename_i h1 h4 h7 h2
          exact ⟨by show x.kind % 8 < 8; omega, by show 1 + x.a ≤ _; omega, by show 1 + x.b ≤ _; omega, by show 0 ≤ _; omega, ⟨fun h => absurd h h4, by show 0 ≤ 100; omega, fun p hp => by cases hp⟩, by show 0 ≤ 100; omega, by show 0 ≤ _; omega⟩
end Sc
end Go.Proofs.YtbhjkddjgikaiaaGreatDoor

namespace Go.Proofs.YtbhjkddjgikaiaaGreatDoor
open Go.RowKit Go.ChangeShapes Go.WideShapes
set_option linter.unusedVariables false
set_option linter.unusedSimpArgs false

def ovE (e : Sc.O × Value × Value) : List Value := ov e.1 e.2.1 e.2.2
def okO (W : World) (e : Sc.O × Value × Value) : Prop := e.1.ok ∧ PosAt W e.2.1 e.1.parts ∧ NsAt .u8 W e.2.2 e.1.long
def o0 : Sc.O × Value × Value := (⟨0, 0, 0, 0, [], 0, []⟩, .slice none 0 0, .slice none 0 0)
theorem okO_below {W W' : World} {e : Sc.O × Value × Value} (h : okO W e) (hb : Below W.heap.size W W') : okO W' e := ⟨h.1, h.2.1.below hb, h.2.2.below hb⟩
theorem list2o {α : Type} {l : List α} (h : l.length = 2) : ∃ a b, l = [a, b] := by
  match l, h with
  | [a, b], _ => exact ⟨a, b, rfl⟩
theorem list7o {α : Type} {l : List α} (h : l.length = 7) : ∃ a b c d e f g, l = [a, b, c, d, e, f, g] := by
  match l, h with
  | [a, b, c, d, e, f, g], _ => exact ⟨a, b, c, d, e, f, g, rfl⟩
section
variable {H : Type} {enc : TypeId × Value → H} {P : Program} {W : World} {base : Nat} {sp : Nat → Bool} {held : Bool}
theorem open_elsO {E : Type} (f : E → List Value) (sz : Nat) (d : E) (ok : E → Prop) {t e : TypeId} (ht : P.underlying t = some (.slice e)) (hsz : P.cellsOf e = sz) (hpos : 0 < sz) (hlen : ∀ x, (f x).length = sz)
    (hrd : ∀ n cs y, DataW.trod enc P W base sp held n e cs = some y → ∃ x, ok x ∧ cs = f x)
    {a : Option Addr} {len cap : Nat} {d0 : DataW H} {ps : List MemPlace} (h : DataW.Trod enc P W base sp held t (.slice a len cap) d0 ps) :
    ∃ l : List E, l.length = len ∧ (∀ x ∈ l, ok x) ∧ ElsAt f sz d W a l ∧ len ≤ cap ∧ cap ≤ maxLen := by
  obtain ⟨fuel, hf⟩ := h
  rcases Deep.open_slice ht hf with ⟨h1, _⟩ | ⟨a', len', cap', m, n, D, Pl, h1, hb, hl, hm, hmm, _, hx⟩
  · simp [Value.cells] at h1
    obtain ⟨rfl, rfl, rfl⟩ := h1
    exact ⟨[], rfl, by simp, .inl rfl, Nat.le_refl _, Nat.zero_le _⟩
  · simp [Value.cells] at h1
    obtain ⟨rfl, rfl, rfl⟩ := h1
    have hlm : len ≤ m := by rw [hmm]; split <;> omega
    obtain ⟨q, hq⟩ := Deep.choose_lt (n := len) (α := Option E) (p := fun i x => ∃ y, x = some y ∧ ok y ∧ ∀ j v, (f y)[j]? = some v → W.cell? ((a'.add (i * sz)).add j) = some v) (fun i hi => by
      obtain ⟨cs', h1, h2⟩ := hx i (by omega)
      obtain ⟨y, hy, rfl⟩ := hrd _ _ _ h2
      rw [hsz] at h1
      obtain ⟨_, hlen2, hcell⟩ := World.cells?_some h1
      refine ⟨some y, y, rfl, hy, fun j v hv => ?_⟩
      have hj : j < sz := by
        by_cases c : j < sz
        · exact c
        · rw [List.getElem?_eq_none (by rw [hlen]; omega)] at hv; cases hv
      rw [hcell j hj, hv])
    have hg : ∀ i, i < len → ((List.range len).map fun i => (q i).getD d).getD i d = (q i).getD d := fun i hi => by
      rw [List.getD_eq_getElem?_getD, List.getElem?_map, List.getElem?_range hi]
      rfl
    refine ⟨(List.range len).map fun i => (q i).getD d, by simp, ?_, ?_, hl, hm⟩
    · intro x hx
      obtain ⟨i, hi, rfl⟩ := List.mem_map.1 hx
      obtain ⟨y, e, hy, _⟩ := hq i (List.mem_range.1 hi)
      rw [e]
      exact hy
    · by_cases h0 : len = 0
      · left
        rw [h0]
        rfl
      · right
        obtain ⟨b, off, spot⟩ := a'
        obtain ⟨y0, e0, _, h00⟩ := hq 0 (by omega)
        obtain ⟨v0, hv0⟩ : ∃ v, (f y0)[0]? = some v := ⟨_, List.getElem?_eq_getElem (by rw [hlen]; exact hpos)⟩
        have h00 := h00 0 v0 hv0
        have hs : spot = none := by
          cases spot with
          | none => rfl
          | some k =>
            simp only [World.cell?, Addr.add, Nat.zero_mul] at h00
            split at h00 <;> simp at h00
        subst hs
        refine ⟨b, off, rfl, fun i hi j v hv => ?_⟩
        have hi : i < len := by simpa using hi
        rw [hg i hi] at hv
        obtain ⟨y, e, _, h3⟩ := hq i hi
        rw [e] at hv
        have h4 := h3 j v hv
        rw [Addr.add_mid, Addr.add_mid] at h4
        exact h4
theorem open_elsL {E : Type} (f : E → List Value) (sz : Nat) (d : E) (ok : E → Prop) {t e : TypeId} (ht : P.underlying t = some (.slice e)) (hsz : P.cellsOf e = sz) (hpos : 0 < sz) (hlen : ∀ x, (f x).length = sz)
    (hrd : ∀ n cs y, DataW.trod enc P W base sp held n e cs = some y → ∃ x, ok x ∧ cs = f x)
    {n : Nat} {cs : List Value} {y : DataW H × List MemPlace} (h : DataW.trod enc P W base sp held n t cs = some y) :
    ∃ a cap, ∃ l : List E, cs = [.slice a l.length cap] ∧ (∀ x ∈ l, ok x) ∧ ElsAt f sz d W a l ∧ l.length ≤ cap ∧ cap ≤ maxLen := by
  have hc : ∃ a len cap, cs = [.slice a len cap] := by
    rcases Deep.open_slice ht h with ⟨h1, _⟩ | ⟨a', len', cap', m, n, D, Pl, h1, _⟩
    · exact ⟨none, 0, 0, h1⟩
    · exact ⟨_, _, _, h1⟩
  obtain ⟨a, len, cap, rfl⟩ := hc
  obtain ⟨l, h1, h2, h3, h4, h5⟩ := open_elsO f sz d ok ht hsz hpos hlen hrd (a := a) (len := len) (cap := cap) (d0 := y.1) (ps := y.2) ⟨n, h⟩
  subst h1
  exact ⟨a, cap, l, rfl, h2, h3, h4, h5⟩
theorem rd_p (n : Nat) (cs : List Value) (y : DataW H × List MemPlace) (h : DataW.trod enc Tryz.prog W base sp held n 133 cs = some y) : ∃ x : Nat × Nat, (x.1 ≤ 255 ∧ x.2 ≤ 4294967295) ∧ cs = pov x := by
  have c0 : Tryz.prog.cellsOf 133 = 2 := by kernel_rfl
  have c1 : Tryz.prog.cellsOf 5 = 1 := by kernel_rfl
  have c2 : Tryz.prog.cellsOf 41 = 1 := by kernel_rfl
  obtain ⟨xs, m, _, _, hl, hx, hf⟩ := DataW.trod_struct Tryz.underlying133 h
  rw [c0] at hl
  obtain ⟨x0, x1, rfl⟩ := list2o hl
  have g0 := hf 0 _ rfl
  have g1 := hf 1 _ rfl
  simp [c1, c2] at g0 g1
  obtain ⟨y0, y1, rfl⟩ := list2o hx
  simp at g0 g1
  obtain ⟨z0, e0, _, b0⟩ := DataW.trod_int Tryz.underlying5 g0
  obtain ⟨z1, e1, _, b1⟩ := DataW.trod_int Tryz.underlying41 g1
  simp at e0 e1
  subst e0
  subst e1
  have b0 := Go.bounds_u8 b0
  have b1 := Go.bounds_u32 b1
  refine ⟨(z0.toNat, z1.toNat), by simp; omega, ?_⟩
  unfold pov
  rw [show ((z0.toNat : Nat) : Int) = z0 by omega, show ((z1.toNat : Nat) : Int) = z1 by omega]
theorem rd_u8 (n : Nat) (cs : List Value) (y : DataW H × List MemPlace) (h : DataW.trod enc Tryz.prog W base sp held n 5 cs = some y) : ∃ x : Int, (0 ≤ x ∧ x ≤ 255) ∧ cs = [.int .u8 x] := by
  obtain ⟨z0, e0, _, b0⟩ := DataW.trod_int Tryz.underlying5 h
  have b0 := Go.bounds_u8 b0
  exact ⟨z0, by omega, e0⟩
theorem rd_o (n : Nat) (cs : List Value) (y : DataW H × List MemPlace) (h : DataW.trod enc Tryz.prog W base sp held n 38 cs = some y) : ∃ x, okO W x ∧ cs = ovE x := by
  have c0 : Tryz.prog.cellsOf 38 = 7 := by kernel_rfl
  have c1 : Tryz.prog.cellsOf 5 = 1 := by kernel_rfl
  have c2 : Tryz.prog.cellsOf 35 = 1 := by kernel_rfl
  have c3 : Tryz.prog.cellsOf 36 = 1 := by kernel_rfl
  have c4 : Tryz.prog.cellsOf 22 = 1 := by kernel_rfl
  obtain ⟨xs, m, _, _, hl, hx, hf⟩ := DataW.trod_struct Tryz.underlying38 h
  rw [c0] at hl
  obtain ⟨x0, x1, x2, x3, x4, x5, x6, rfl⟩ := list7o hl
  have g0 := hf 0 _ rfl
  have g1 := hf 1 _ rfl
  have g2 := hf 2 _ rfl
  have g3 := hf 3 _ rfl
  have g4 := hf 4 _ rfl
  have g5 := hf 5 _ rfl
  have g6 := hf 6 _ rfl
  simp [c1, c2, c3, c4] at g0 g1 g2 g3 g4 g5 g6
  obtain ⟨y0, y1, y2, y3, y4, y5, y6, rfl⟩ := list7o hx
  simp at g0 g1 g2 g3 g4 g5 g6
  obtain ⟨z0, e0, b0⟩ := rd_u8 _ _ _ g0
  obtain ⟨z1, e1, b1⟩ := rd_u8 _ _ _ g1
  obtain ⟨z2, e2, b2⟩ := rd_u8 _ _ _ g2
  obtain ⟨z3, e3, b3⟩ := rd_u8 _ _ _ g3
  obtain ⟨a4, k4, l4, e4, h4, E4, m4, n4⟩ := open_elsL pov 2 (0, 0) _ Tryz.underlying35 (by kernel_rfl) (by omega) (fun _ => rfl) rd_p g4
  obtain ⟨z5, e5, _, b5⟩ := DataW.trod_int Tryz.underlying36 g5
  obtain ⟨a6, k6, l6, e6, h6, E6, m6, n6⟩ := open_elsL (fun x : Int => [Value.int .u8 x]) 1 0 _ Tryz.underlying22 (by kernel_rfl) (by omega) (fun _ => rfl) rd_u8 g6
  have b5 := Go.bounds_i16 b5
  simp at b0 b1 b2 b3 e4 e5 e6
  subst b0
  subst b1
  subst b2
  subst b3
  subst e4
  subst e5
  subst e6
  simp only [maxLen] at n4 n6
  refine ⟨(⟨z0.toNat, z1.toNat, z2.toNat, z3.toNat, l4, z5, l6⟩, .slice a4 l4.length k4, .slice a6 l6.length k6), ⟨⟨?_, ?_, ?_, ?_, h4, ?_, ?_, h6, ?_⟩, ⟨a4, k4, rfl, E4⟩, ⟨a6, k6, rfl, ?_⟩⟩, ?_⟩
  · show z0.toNat ≤ 255; omega
  · show z1.toNat ≤ 255; omega
  · show z2.toNat ≤ 255; omega
  · show z3.toNat ≤ 255; omega
  · show l4.length ≤ _; omega
  · show -32768 ≤ z5 ∧ z5 ≤ 32767; omega
  · show l6.length ≤ _; omega
  · rcases E6 with E6 | ⟨b, off, e, hE⟩
    · exact .inl E6
    · exact .inr ⟨b, off, e, fun i hi => by
        have := hE i hi 0 _ rfl
        simpa using this⟩
  · unfold ovE ov
    simp only
    rw [show ((z0.toNat : Nat) : Int) = z0 by omega, show ((z1.toNat : Nat) : Int) = z1 by omega, show ((z2.toNat : Nat) : Int) = z2 by omega, show ((z3.toNat : Nat) : Int) = z3 by omega]
theorem open_os {a : Option Addr} {len cap : Nat} {d0 : DataW H} {ps : List MemPlace} (h : DataW.Trod enc Tryz.prog W base sp held 33 (.slice a len cap) d0 ps) :
    ∃ l : List (Sc.O × Value × Value), l.length = len ∧ (∀ x ∈ l, okO W x) ∧ ElsAt ovE 7 o0 W a l ∧ len ≤ cap ∧ cap ≤ maxLen :=
  open_elsO ovE 7 o0 (okO W) Tryz.underlying33 (by kernel_rfl) (by omega) (fun _ => rfl) rd_o h
end
end Go.Proofs.YtbhjkddjgikaiaaGreatDoor

namespace Go.Proofs.YtbhjkddjgikaiaaGreatDoor
open Go.RowKit
set_option linter.unusedVariables false
set_option linter.unusedSimpArgs false

theorem info_op : ∃ i, Tryz.prog.info? 48 = some i ∧ i.zero = some (.agg (opE opE0).toArray) ∧ i.size = 8 ∧ i.bytes = 96 := by
  have hi0 : (Tryz.prog.info? 48).map (fun i => (i.zero, i.size, i.bytes)) = some (some (.agg (opE opE0).toArray), 8, 96) := by kernel_rfl
  obtain ⟨i, hi, h⟩ := Option.map_eq_some_iff.1 hi0
  simp only [Prod.mk.injEq] at h
  exact ⟨i, hi, h.1, h.2.1, h.2.2⟩
/-- its parts and days lie away from this block -/
def away (W : World) (e : Sc.Op × Value × Value) (o : Option Nat) : Prop := ∀ g, (e.2.1.ownBlock = some g ∨ e.2.2.ownBlock = some g) → g < W.heap.size ∧ o ≠ some g
theorem cell_kept {W W' : World} {b o : Nat} {v : Value} (h : W.cell? ⟨b, o, none⟩ = some v) (hk : W'.heap[b]? = W.heap[b]?) : W'.cell? ⟨b, o, none⟩ = some v := by
  rw [← h]
  simp only [World.cell?, hk]
theorem okE_kept {W W' : World} {e : Sc.Op × Value × Value} {o : Option Nat} (h : okE W e) (ha : away W e o) (hk : ∀ b, b < W.heap.size → o ≠ some b → W'.heap[b]? = W.heap[b]?) : okE W' e := by
  obtain ⟨h1, ⟨p, c, e1, h2⟩, ⟨q, d, e2, h3⟩⟩ := h
  refine ⟨h1, ⟨p, c, e1, ?_⟩, ⟨q, d, e2, ?_⟩⟩
  · rcases h2 with h2 | ⟨b, off, rfl, h2⟩
    · exact .inl h2
    · have hg := ha b (.inl (by rw [e1]; rfl))
      exact .inr ⟨b, off, rfl, fun i hi j v hv => cell_kept (h2 i hi j v hv) (hk b hg.1 hg.2)⟩
  · rcases h3 with h3 | ⟨b, off, rfl, h3⟩
    · exact .inl h3
    · have hg := ha b (.inr (by rw [e2]; rfl))
      exact .inr ⟨b, off, rfl, fun i hi => cell_kept (h3 i hi) (hk b hg.1 hg.2)⟩
theorem append_op (W : World) (B : Nat) (ty : TypeId) (v : Value) (n : Nat) (xs : List (Sc.Op × Value × Value)) (hown : W.ownsRow B 48 8 v n (xs.flatMap opE)) (g : Nat) (o : Sc.Op) (p1 p2 : Option Addr) (n1 n2 c1 c2 : Nat)
    (RG : Row W g (opc o (.slice p1 n1 c1) (.slice p2 n2 c2)).toArray 48) (hn : n ≤ 100000) (hB : B ≤ W.heap.size) :
    ∃ v' w', (Builtin.append_ #[26, 26] ty #[v, .slice (some ⟨g, 0, none⟩) 1 1]).run Tryz.prog W = .ok v' w' ∧ w'.ownsRow B 48 8 v' (n + 1) ((xs ++ [(o, Value.slice p1 n1 c1, Value.slice p2 n2 c2)]).flatMap opE) ∧ Below B W w' ∧ (∀ b, b < W.heap.size → v.ownBlock ≠ some b → w'.heap[b]? = W.heap[b]?) ∧ (v'.ownBlock = v.ownBlock ∨ v'.ownBlock = some W.heap.size) ∧ W.heap.size ≤ w'.heap.size := by
  obtain ⟨i, hi, h1, h2, h3⟩ := info_op
  obtain ⟨v', w', hr, k2, k3, k4, k5⟩ := run_append_own_at (P := Tryz.prog) W B 26 ty 48 i (.agg (opE opE0).toArray) 8 96 Tryz.underlying26 hi h1 h2 h3 rfl (by omega) v n (xs.flatMap opE) hown ⟨g, 0, none⟩ 1 1 (opc o (Value.slice p1 n1 c1) (Value.slice p2 n2 c2)) rfl (fun j u hj => by
    rw [addr_add, Nat.zero_add, RG.cell j]
    simpa using hj) (fun u hu => by simp [opc] at hu; rcases hu with rfl | rfl | rfl | rfl | rfl | rfl | rfl | rfl <;> rfl) (by unfold maxLen; omega) (by omega) hB
  have hBB : Below B W w' := (Below.refl B W).grown k3 hB (fun k hk => (ownW_lt hown hk).1)
  exact ⟨v', w', hr, by rw [List.flatMap_append]; simpa [opE] using k2, hBB, fun b hb hne => k3.block b hb fun e => hne e.symm, k5, hBB.size⟩
end Go.Proofs.YtbhjkddjgikaiaaGreatDoor
