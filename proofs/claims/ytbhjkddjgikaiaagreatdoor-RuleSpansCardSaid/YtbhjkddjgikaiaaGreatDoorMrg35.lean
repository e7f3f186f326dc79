/-
  Own texts, several in one (Raw13c, In13, Law13b).
-/
import Derived.Test.YtbhjkddjgikaiaaGreatDoorMrg34
import Derived.OpenShut
import Derived.Lib.SmallJoins
import Derived.Test.YtbhjkddjgikaiaaGreatDoorMrg33
import Derived.Test.YtbhjkddjgikaiaaGreatDoorMrg29
namespace Go.Proofs.YtbhjkddjgikaiaaGreatDoor
open Go.RowKit
set_option linter.unusedVariables false
set_option linter.unusedSimpArgs false
namespace Sc
end Sc
end Go.Proofs.YtbhjkddjgikaiaaGreatDoor

namespace Go.Proofs.YtbhjkddjgikaiaaGreatDoor
open Go.RowKit Go.ChangeShapes Go.WideShapes
set_option linter.unusedVariables false
set_option linter.unusedSimpArgs false

def o0 : Sc.O × Value × Value := (⟨0, 0, 0, 0, [], 0, []⟩, .slice none 0 0, .slice none 0 0)
theorem list2o {α : Type} {l : List α} (h : l.length = 2) : ∃ a b, l = [a, b] := by
  match l, h with
  | [a, b], _ => exact ⟨a, b, rfl⟩
section
variable {H : Type} {enc : TypeId × Value → H} {P : Program} {W : World} {base : Nat} {sp : Nat → Bool} {held : Bool}
theorem open_elsO {E : Type} (f : E → List Value) (sz : Nat) (d : E) (ok : E → Prop) {t e : TypeId} (ht : P.underlying t = some (.slice e)) (hsz : P.cellsOf e = sz) (hpos : 0 < sz) (hlen : ∀ x, (f x).length = sz)
    (hrd : ∀ n cs y, DataW.trod enc P W base sp held n e cs = some y → ∃ x, ok x ∧ cs = f x)
    {a : Option Addr} {len cap : Nat} {d0 : DataW H} {ps : List MemPlace} (h : DataW.Trod enc P W base sp held t (.slice a len cap) d0 ps) :
    ∃ l : List E, l.length = len ∧ (∀ x ∈ l, ok x) ∧ ElsAt f sz d W a l ∧ len ≤ cap ∧ cap ≤ maxLen := by
  obtain ⟨fuel, hf⟩ := h
  rcases Deep.open_slice ht hf with ⟨h1, _⟩ | ⟨a', len', cap', m, n, D, Pl, h1, hb, hl, hm, hmm, _, hx⟩
  · simp [Value.cells] at h1
    obtain ⟨rfl, rfl, rfl⟩ := h1
    exact ⟨[], rfl, by simp, .inl rfl, Nat.le_refl _, Nat.zero_le _⟩
  · simp [Value.cells] at h1
    obtain ⟨rfl, rfl, rfl⟩ := h1
    have hlm : len ≤ m := by rw [hmm]; split <;> omega
    obtain ⟨q, hq⟩ := Deep.choose_lt (n := len) (α := Option E) (p := fun i x => ∃ y, x = some y ∧ ok y ∧ ∀ j v, (f y)[j]? = some v → W.cell? ((a'.add (i * sz)).add j) = some v) (fun i hi => by
      obtain ⟨cs', h1, h2⟩ := hx i (by omega)
      obtain ⟨y, hy, rfl⟩ := hrd _ _ _ h2
      rw [hsz] at h1
      obtain ⟨_, hlen2, hcell⟩ := World.cells?_some h1
      refine ⟨some y, y, rfl, hy, fun j v hv => ?_⟩
      have hj : j < sz := by
        by_cases c : j < sz
        · exact c
        · rw [List.getElem?_eq_none (by rw [hlen]; omega)] at hv; cases hv
      rw [hcell j hj, hv])
    have hg : ∀ i, i < len → ((List.range len).map fun i => (q i).getD d).getD i d = (q i).getD d := fun i hi => by
      rw [List.getD_eq_getElem?_getD, List.getElem?_map, List.getElem?_range hi]
      rfl
    refine ⟨(List.range len).map fun i => (q i).getD d, by simp, ?_, ?_, hl, hm⟩
    · intro x hx
      obtain ⟨i, hi, rfl⟩ := List.mem_map.1 hx
      obtain ⟨y, e, hy, _⟩ := hq i (List.mem_range.1 hi)
      rw [e]
      exact hy
    · by_cases h0 : len = 0
      · left
        rw [h0]
        rfl
      · right
        obtain ⟨b, off, spot⟩ := a'
        obtain ⟨y0, e0, _, h00⟩ := hq 0 (by omega)
        obtain ⟨v0, hv0⟩ : ∃ v, (f y0)[0]? = some v := ⟨_, List.getElem?_eq_getElem (by rw [hlen]; exact hpos)⟩
        have h00 := h00 0 v0 hv0
        have hs : spot = none := by
          cases spot with
          | none => rfl
          | some k =>
            simp only [World.cell?, Addr.add, Nat.zero_mul] at h00
            split at h00 <;> simp at h00
        subst hs
        refine ⟨b, off, rfl, fun i hi j v hv => ?_⟩
        have hi : i < len := by simpa using hi
        rw [hg i hi] at hv
        obtain ⟨y, e, _, h3⟩ := hq i hi
        rw [e] at hv
        have h4 := h3 j v hv
        rw [Addr.add_mid, Addr.add_mid] at h4
        exact h4
theorem open_elsL {E : Type} (f : E → List Value) (sz : Nat) (d : E) (ok : E → Prop) {t e : TypeId} (ht : P.underlying t = some (.slice e)) (hsz : P.cellsOf e = sz) (hpos : 0 < sz) (hlen : ∀ x, (f x).length = sz)
    (hrd : ∀ n cs y, DataW.trod enc P W base sp held n e cs = some y → ∃ x, ok x ∧ cs = f x)
    {n : Nat} {cs : List Value} {y : DataW H × List MemPlace} (h : DataW.trod enc P W base sp held n t cs = some y) :
    ∃ a cap, ∃ l : List E, cs = [.slice a l.length cap] ∧ (∀ x ∈ l, ok x) ∧ ElsAt f sz d W a l ∧ l.length ≤ cap ∧ cap ≤ maxLen := by
  have hc : ∃ a len cap, cs = [.slice a len cap] := by
    rcases Deep.open_slice ht h with ⟨h1, _⟩ | ⟨a', len', cap', m, n, D, Pl, h1, _⟩
    · exact ⟨none, 0, 0, h1⟩
    · exact ⟨_, _, _, h1⟩
  obtain ⟨a, len, cap, rfl⟩ := hc
  obtain ⟨l, h1, h2, h3, h4, h5⟩ := open_elsO f sz d ok ht hsz hpos hlen hrd (a := a) (len := len) (cap := cap) (d0 := y.1) (ps := y.2) ⟨n, h⟩
  subst h1
  exact ⟨a, cap, l, rfl, h2, h3, h4, h5⟩
theorem rd_u8 (n : Nat) (cs : List Value) (y : DataW H × List MemPlace) (h : DataW.trod enc Tryz.prog W base sp held n 5 cs = some y) : ∃ x : Int, (0 ≤ x ∧ x ≤ 255) ∧ cs = [.int .u8 x] := by
  obtain ⟨z0, e0, _, b0⟩ := DataW.trod_int Tryz.underlying5 h
  have b0 := Go.bounds_u8 b0
  exact ⟨z0, by omega, e0⟩
end
end Go.Proofs.YtbhjkddjgikaiaaGreatDoor

namespace Go.Proofs.YtbhjkddjgikaiaaGreatDoor
open Go.RowKit
set_option linter.unusedVariables false
set_option linter.unusedSimpArgs false

theorem info_op : ∃ i, Tryz.prog.info? 48 = some i ∧ i.zero = some (.agg (opE opE0).toArray) ∧ i.size = 8 ∧ i.bytes = 96 := by
  have hi0 : (Tryz.prog.info? 48).map (fun i => (i.zero, i.size, i.bytes)) = some (some (.agg (opE opE0).toArray), 8, 96) := by kernel_rfl
  obtain ⟨i, hi, h⟩ := Option.map_eq_some_iff.1 hi0
  simp only [Prod.mk.injEq] at h
  exact ⟨i, hi, h.1, h.2.1, h.2.2⟩
theorem append_op (W : World) (B : Nat) (ty : TypeId) (v : Value) (n : Nat) (xs : List (Sc.Op × Value × Value)) (hown : W.ownsRow B 48 8 v n (xs.flatMap opE)) (g : Nat) (o : Sc.Op) (p1 p2 : Option Addr) (n1 n2 c1 c2 : Nat)
    (RG : Row W g (opc o (.slice p1 n1 c1) (.slice p2 n2 c2)).toArray 48) (hn : n ≤ 100000) (hB : B ≤ W.heap.size) :
    ∃ v' w', (Builtin.append_ #[26, 26] ty #[v, .slice (some ⟨g, 0, none⟩) 1 1]).run Tryz.prog W = .ok v' w' ∧ w'.ownsRow B 48 8 v' (n + 1) ((xs ++ [(o, Value.slice p1 n1 c1, Value.slice p2 n2 c2)]).flatMap opE) ∧ Below B W w' ∧ (∀ b, b < W.heap.size → v.ownBlock ≠ some b → w'.heap[b]? = W.heap[b]?) ∧ (v'.ownBlock = v.ownBlock ∨ v'.ownBlock = some W.heap.size) ∧ W.heap.size ≤ w'.heap.size := by
  obtain ⟨i, hi, h1, h2, h3⟩ := info_op
  obtain ⟨v', w', hr, k2, k3, k4, k5⟩ := run_append_own_at (P := Tryz.prog) W B 26 ty 48 i (.agg (opE opE0).toArray) 8 96 Tryz.underlying26 hi h1 h2 h3 rfl (by omega) v n (xs.flatMap opE) hown ⟨g, 0, none⟩ 1 1 (opc o (Value.slice p1 n1 c1) (Value.slice p2 n2 c2)) rfl (fun j u hj => by
    rw [addr_add, Nat.zero_add, RG.cell j]
    simpa using hj) (fun u hu => by simp [opc] at hu; rcases hu with rfl | rfl | rfl | rfl | rfl | rfl | rfl | rfl <;> rfl) (by unfold maxLen; omega) (by omega) hB
  have hBB : Below B W w' := (Below.refl B W).grown k3 hB (fun k hk => (ownW_lt hown hk).1)
  exact ⟨v', w', hr, by rw [List.flatMap_append]; simpa [opE] using k2, hBB, fun b hb hne => k3.block b hb fun e => hne e.symm, k5, hBB.size⟩
end Go.Proofs.YtbhjkddjgikaiaaGreatDoor
