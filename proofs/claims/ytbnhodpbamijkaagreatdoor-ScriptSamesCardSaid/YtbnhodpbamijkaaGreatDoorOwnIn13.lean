/-
  Own texts, several in one (In13, Law13b, Join13).
-/
import Derived.Test.YtbnhodpbamijkaaGreatDoorOwnRaw13
import Derived.OpenShut
import Derived.Lib.SmallJoins
import Derived.Test.YtbnhodpbamijkaaGreatDoorOwnLText
import Derived.Test.YtbnhodpbamijkaaGreatDoorOwnElsG
import Derived.Laws.OwnMore
namespace Go.Proofs.YtbnhodpbamijkaaGreatDoor
open Go.RowKit Go.ChangeShapes Go.WideShapes
set_option linter.unusedVariables false
set_option linter.unusedSimpArgs false

def ovE (e : Sc.O × Value × Value) : List Value := ov e.1 e.2.1 e.2.2
def okO (W : World) (e : Sc.O × Value × Value) : Prop := e.1.ok ∧ PosAt W e.2.1 e.1.parts ∧ NsAt .u8 W e.2.2 e.1.long
def o0 : Sc.O × Value × Value := (⟨0, 0, 0, 0, [], 0, []⟩, .slice none 0 0, .slice none 0 0)
theorem okO_below {W W' : World} {e : Sc.O × Value × Value} (h : okO W e) (hb : Below W.heap.size W W') : okO W' e := ⟨h.1, h.2.1.below hb, h.2.2.below hb⟩
theorem list2o {α : Type} {l : List α} (h : l.length = 2) : ∃ a b, l = [a, b] := by
  match l, h with
  | [a, b], _ => exact ⟨a, b, rfl⟩
theorem list7o {α : Type} {l : List α} (h : l.length = 7) : ∃ a b c d e f g, l = [a, b, c, d, e, f, g] := by
  match l, h with
  | [a, b, c, d, e, f, g], _ => exact ⟨a, b, c, d, e, f, g, rfl⟩
section
variable {H : Type} {enc : TypeId × Value → H} {P : Program} {W : World} {base : Nat} {sp : Nat → Bool} {held : Bool}
theorem open_elsO {E : Type} (f : E → List Value) (sz : Nat) (d : E) (ok : E → Prop) {t e : TypeId} (ht : P.underlying t = some (.slice e)) (hsz : P.cellsOf e = sz) (hpos : 0 < sz) (hlen : ∀ x, (f x).length = sz)
    (hrd : ∀ n cs y, DataW.trod enc P W base sp held n e cs = some y → ∃ x, ok x ∧ cs = f x)
    {a : Option Addr} {len cap : Nat} {d0 : DataW H} {ps : List MemPlace} (h : DataW.Trod enc P W base sp held t (.slice a len cap) d0 ps) :
    ∃ l : List E, l.length = len ∧ (∀ x ∈ l, ok x) ∧ ElsAt f sz d W a l ∧ len ≤ cap ∧ cap ≤ maxLen := by
  obtain ⟨fuel, hf⟩ := h
  rcases Deep.open_slice ht hf with ⟨h1, _⟩ | ⟨a', len', cap', m, n, D, Pl, h1, hb, hl, hm, hmm, _, hx⟩
  · simp [Value.cells] at h1
    obtain ⟨rfl, rfl, rfl⟩ := h1
    exact ⟨[], rfl, by simp, .inl rfl, Nat.le_refl _, Nat.zero_le _⟩
  · simp [Value.cells] at h1
    obtain ⟨rfl, rfl, rfl⟩ := h1
    have hlm : len ≤ m := by rw [hmm]; split <;> omega
    obtain ⟨q, hq⟩ := Deep.choose_lt (n := len) (α := Option E) (p := fun i x => ∃ y, x = some y ∧ ok y ∧ ∀ j v, (f y)[j]? = some v → W.cell? ((a'.add (i * sz)).add j) = some v) (fun i hi => by
      obtain ⟨cs', h1, h2⟩ := hx i (by omega)
      obtain ⟨y, hy, rfl⟩ := hrd _ _ _ h2
      rw [hsz] at h1
      obtain ⟨_, hlen2, hcell⟩ := World.cells?_some h1
      refine ⟨some y, y, rfl, hy, fun j v hv => ?_⟩
      have hj : j < sz := by
        by_cases c : j < sz
        · exact c
        · rw [List.getElem?_eq_none (by rw [hlen]; omega)] at hv; cases hv
      rw [hcell j hj, hv])
    have hg : ∀ i, i < len → ((List.range len).map fun i => (q i).getD d).getD i d = (q i).getD d := fun i hi => by
      rw [List.getD_eq_getElem?_getD, List.getElem?_map, List.getElem?_range hi]
      rfl
    refine ⟨(List.range len).map fun i => (q i).getD d, by simp, ?_, ?_, hl, hm⟩
    · intro x hx
      obtain ⟨i, hi, rfl⟩ := List.mem_map.1 hx
      obtain ⟨y, e, hy, _⟩ := hq i (List.mem_range.1 hi)
      rw [e]
      exact hy
    · by_cases h0 : len = 0
      · left
        rw [h0]
        rfl
      · right
        obtain ⟨b, off, spot⟩ := a'
        obtain ⟨y0, e0, _, h00⟩ := hq 0 (by omega)
        obtain ⟨v0, hv0⟩ : ∃ v, (f y0)[0]? = some v := ⟨_, List.getElem?_eq_getElem (by rw [hlen]; exact hpos)⟩
        have h00 := h00 0 v0 hv0
        have hs : spot = none := by
          cases spot with
          | none => rfl
          | some k =>
            simp only [World.cell?, Addr.add, Nat.zero_mul] at h00
            split at h00 <;> simp at h00
        subst hs
        refine ⟨b, off, rfl, fun i hi j v hv => ?_⟩
        have hi : i < len := by simpa using hi
        rw [hg i hi] at hv
        obtain ⟨y, e, _, h3⟩ := hq i hi
        rw [e] at hv
        have h4 := h3 j v hv
        rw [Addr.add_mid, Addr.add_mid] at h4
        exact h4
theorem open_elsL {E : Type} (f : E → List Value) (sz : Nat) (d : E) (ok : E → Prop) {t e : TypeId} (ht : P.underlying t = some (.slice e)) (hsz : P.cellsOf e = sz) (hpos : 0 < sz) (hlen : ∀ x, (f x).length = sz)
    (hrd : ∀ n cs y, DataW.trod enc P W base sp held n e cs = some y → ∃ x, ok x ∧ cs = f x)
    {n : Nat} {cs : List Value} {y : DataW H × List MemPlace} (h : DataW.trod enc P W base sp held n t cs = some y) :
    ∃ a cap, ∃ l : List E, cs = [.slice a l.length cap] ∧ (∀ x ∈ l, ok x) ∧ ElsAt f sz d W a l ∧ l.length ≤ cap ∧ cap ≤ maxLen := by
  have hc : ∃ a len cap, cs = [.slice a len cap] := by
    rcases Deep.open_slice ht h with ⟨h1, _⟩ | ⟨a', len', cap', m, n, D, Pl, h1, _⟩
    · exact ⟨none, 0, 0, h1⟩
    · exact ⟨_, _, _, h1⟩
  obtain ⟨a, len, cap, rfl⟩ := hc
  obtain ⟨l, h1, h2, h3, h4, h5⟩ := open_elsO f sz d ok ht hsz hpos hlen hrd (a := a) (len := len) (cap := cap) (d0 := y.1) (ps := y.2) ⟨n, h⟩
  subst h1
  exact ⟨a, cap, l, rfl, h2, h3, h4, h5⟩
theorem rd_p (n : Nat) (cs : List Value) (y : DataW H × List MemPlace) (h : DataW.trod enc Tryz.prog W base sp held n 84 cs = some y) : ∃ x : Nat × Nat, (x.1 ≤ 255 ∧ x.2 ≤ 4294967295) ∧ cs = pov x := by
  have c0 : Tryz.prog.cellsOf 84 = 2 := by kernel_rfl
  have c1 : Tryz.prog.cellsOf 5 = 1 := by kernel_rfl
  have c2 : Tryz.prog.cellsOf 47 = 1 := by kernel_rfl
  obtain ⟨xs, m, _, _, hl, hx, hf⟩ := DataW.trod_struct Tryz.underlying84 h
  rw [c0] at hl
  obtain ⟨x0, x1, rfl⟩ := list2o hl
  have g0 := hf 0 _ rfl
  have g1 := hf 1 _ rfl
  simp [c1, c2] at g0 g1
  obtain ⟨y0, y1, rfl⟩ := list2o hx
  simp at g0 g1
  obtain ⟨z0, e0, _, b0⟩ := DataW.trod_int Tryz.underlying5 g0
  obtain ⟨z1, e1, _, b1⟩ := DataW.trod_int Tryz.underlying47 g1
  simp at e0 e1
  subst e0
  subst e1
  have b0 := Go.bounds_u8 b0
  have b1 := Go.bounds_u32 b1
  refine ⟨(z0.toNat, z1.toNat), by simp; omega, ?_⟩
  unfold pov
  rw [show ((z0.toNat : Nat) : Int) = z0 by omega, show ((z1.toNat : Nat) : Int) = z1 by omega]
theorem rd_u8 (n : Nat) (cs : List Value) (y : DataW H × List MemPlace) (h : DataW.trod enc Tryz.prog W base sp held n 5 cs = some y) : ∃ x : Int, (0 ≤ x ∧ x ≤ 255) ∧ cs = [.int .u8 x] := by
  obtain ⟨z0, e0, _, b0⟩ := DataW.trod_int Tryz.underlying5 h
  have b0 := Go.bounds_u8 b0
  exact ⟨z0, by omega, e0⟩
theorem rd_o (n : Nat) (cs : List Value) (y : DataW H × List MemPlace) (h : DataW.trod enc Tryz.prog W base sp held n 46 cs = some y) : ∃ x, okO W x ∧ cs = ovE x := by
  have c0 : Tryz.prog.cellsOf 46 = 7 := by kernel_rfl
  have c1 : Tryz.prog.cellsOf 5 = 1 := by kernel_rfl
  have c2 : Tryz.prog.cellsOf 42 = 1 := by kernel_rfl
  have c3 : Tryz.prog.cellsOf 43 = 1 := by kernel_rfl
  have c4 : Tryz.prog.cellsOf 44 = 1 := by kernel_rfl
  obtain ⟨xs, m, _, _, hl, hx, hf⟩ := DataW.trod_struct Tryz.underlying46 h
  rw [c0] at hl
  obtain ⟨x0, x1, x2, x3, x4, x5, x6, rfl⟩ := list7o hl
  have g0 := hf 0 _ rfl
  have g1 := hf 1 _ rfl
  have g2 := hf 2 _ rfl
  have g3 := hf 3 _ rfl
  have g4 := hf 4 _ rfl
  have g5 := hf 5 _ rfl
  have g6 := hf 6 _ rfl
  simp [c1, c2, c3, c4] at g0 g1 g2 g3 g4 g5 g6
  obtain ⟨y0, y1, y2, y3, y4, y5, y6, rfl⟩ := list7o hx
  simp at g0 g1 g2 g3 g4 g5 g6
  obtain ⟨z0, e0, b0⟩ := rd_u8 _ _ _ g0
  obtain ⟨z1, e1, b1⟩ := rd_u8 _ _ _ g1
  obtain ⟨z2, e2, b2⟩ := rd_u8 _ _ _ g2
  obtain ⟨z3, e3, b3⟩ := rd_u8 _ _ _ g3
  obtain ⟨a4, k4, l4, e4, h4, E4, m4, n4⟩ := open_elsL pov 2 (0, 0) _ Tryz.underlying42 (by kernel_rfl) (by omega) (fun _ => rfl) rd_p g4
  obtain ⟨z5, e5, _, b5⟩ := DataW.trod_int Tryz.underlying43 g5
  obtain ⟨a6, k6, l6, e6, h6, E6, m6, n6⟩ := open_elsL (fun x : Int => [Value.int .u8 x]) 1 0 _ Tryz.underlying44 (by kernel_rfl) (by omega) (fun _ => rfl) rd_u8 g6
  have b5 := Go.bounds_i16 b5
  simp at b0 b1 b2 b3 e4 e5 e6
  subst b0
  subst b1
  subst b2
  subst b3
  subst e4
  subst e5
  subst e6
  simp only [maxLen] at n4 n6
  refine ⟨(⟨z0.toNat, z1.toNat, z2.toNat, z3.toNat, l4, z5, l6⟩, .slice a4 l4.length k4, .slice a6 l6.length k6), ⟨⟨?_, ?_, ?_, ?_, h4, ?_, ?_, h6, ?_⟩, ⟨a4, k4, rfl, E4⟩, ⟨a6, k6, rfl, ?_⟩⟩, ?_⟩
  · show z0.toNat ≤ 255; omega
  · show z1.toNat ≤ 255; omega
  · show z2.toNat ≤ 255; omega
  · show z3.toNat ≤ 255; omega
  · show l4.length ≤ _; omega
  · show -32768 ≤ z5 ∧ z5 ≤ 32767; omega
  · show l6.length ≤ _; omega
  · rcases E6 with E6 | ⟨b, off, e, hE⟩
    · exact .inl E6
    · exact .inr ⟨b, off, e, fun i hi => by
        have := hE i hi 0 _ rfl
        simpa using this⟩
  · unfold ovE ov
    simp only
    rw [show ((z0.toNat : Nat) : Int) = z0 by omega, show ((z1.toNat : Nat) : Int) = z1 by omega, show ((z2.toNat : Nat) : Int) = z2 by omega, show ((z3.toNat : Nat) : Int) = z3 by omega]
theorem open_os {a : Option Addr} {len cap : Nat} {d0 : DataW H} {ps : List MemPlace} (h : DataW.Trod enc Tryz.prog W base sp held 40 (.slice a len cap) d0 ps) :
    ∃ l : List (Sc.O × Value × Value), l.length = len ∧ (∀ x ∈ l, okO W x) ∧ ElsAt ovE 7 o0 W a l ∧ len ≤ cap ∧ cap ≤ maxLen :=
  open_elsO ovE 7 o0 (okO W) Tryz.underlying40 (by kernel_rfl) (by omega) (fun _ => rfl) rd_o h
end
end Go.Proofs.YtbnhodpbamijkaaGreatDoor

namespace Go.Proofs.YtbnhodpbamijkaaGreatDoor
open Go.RowKit
set_option linter.unusedVariables false
set_option linter.unusedSimpArgs false

theorem info_op : ∃ i, Tryz.prog.info? 53 = some i ∧ i.zero = some (.agg (opE opE0).toArray) ∧ i.size = 8 ∧ i.bytes = 96 := by
  have hi0 : (Tryz.prog.info? 53).map (fun i => (i.zero, i.size, i.bytes)) = some (some (.agg (opE opE0).toArray), 8, 96) := by kernel_rfl
  obtain ⟨i, hi, h⟩ := Option.map_eq_some_iff.1 hi0
  simp only [Prod.mk.injEq] at h
  exact ⟨i, hi, h.1, h.2.1, h.2.2⟩
theorem opc_info (o : Sc.Op) (v1 v2 : Value) : (Tryz.prog.info? 53).map (·.size) = some (opc o v1 v2).toArray.size := by show _ = some 8; kernel_rfl
theorem opc_one (o : Sc.Op) (p1 p2 : Option Addr) (n1 n2 c1 c2 : Nat) : (opc o (.slice p1 n1 c1) (.slice p2 n2 c2)).toArray.all (·.oneCell') = true := by simp [opc, Value.oneCell']
/-- its parts and days lie away from this block -/
def away (W : World) (e : Sc.Op × Value × Value) (o : Option Nat) : Prop := ∀ g, (e.2.1.ownBlock = some g ∨ e.2.2.ownBlock = some g) → g < W.heap.size ∧ o ≠ some g
theorem cell_kept {W W' : World} {b o : Nat} {v : Value} (h : W.cell? ⟨b, o, none⟩ = some v) (hk : W'.heap[b]? = W.heap[b]?) : W'.cell? ⟨b, o, none⟩ = some v := by
  rw [← h]
  simp only [World.cell?, hk]
theorem okE_kept {W W' : World} {e : Sc.Op × Value × Value} {o : Option Nat} (h : okE W e) (ha : away W e o) (hk : ∀ b, b < W.heap.size → o ≠ some b → W'.heap[b]? = W.heap[b]?) : okE W' e := by
  obtain ⟨h1, ⟨p, c, e1, h2⟩, ⟨q, d, e2, h3⟩⟩ := h
  refine ⟨h1, ⟨p, c, e1, ?_⟩, ⟨q, d, e2, ?_⟩⟩
  · rcases h2 with h2 | ⟨b, off, rfl, h2⟩
    · exact .inl h2
    · have hg := ha b (.inl (by rw [e1]; rfl))
      exact .inr ⟨b, off, rfl, fun i hi j v hv => cell_kept (h2 i hi j v hv) (hk b hg.1 hg.2)⟩
  · rcases h3 with h3 | ⟨b, off, rfl, h3⟩
    · exact .inl h3
    · have hg := ha b (.inr (by rw [e2]; rfl))
      exact .inr ⟨b, off, rfl, fun i hi => cell_kept (h3 i hi) (hk b hg.1 hg.2)⟩
theorem append_op (W : World) (B : Nat) (ty : TypeId) (v : Value) (n : Nat) (xs : List (Sc.Op × Value × Value)) (hown : W.ownsRow B 53 8 v n (xs.flatMap opE)) (g : Nat) (o : Sc.Op) (p1 p2 : Option Addr) (n1 n2 c1 c2 : Nat)
    (RG : Row W g (opc o (.slice p1 n1 c1) (.slice p2 n2 c2)).toArray 53) (hn : n ≤ 100000) (hB : B ≤ W.heap.size) :
    ∃ v' w', (Builtin.append_ #[41, 41] ty #[v, .slice (some ⟨g, 0, none⟩) 1 1]).run Tryz.prog W = .ok v' w' ∧ w'.ownsRow B 53 8 v' (n + 1) ((xs ++ [(o, Value.slice p1 n1 c1, Value.slice p2 n2 c2)]).flatMap opE) ∧ Below B W w' ∧ (∀ b, b < W.heap.size → v.ownBlock ≠ some b → w'.heap[b]? = W.heap[b]?) ∧ (v'.ownBlock = v.ownBlock ∨ v'.ownBlock = some W.heap.size) ∧ W.heap.size ≤ w'.heap.size := by
  obtain ⟨i, hi, h1, h2, h3⟩ := info_op
  obtain ⟨v', w', hr, k2, k3, k4, k5⟩ := run_append_own_at (P := Tryz.prog) W B 41 ty 53 i (.agg (opE opE0).toArray) 8 96 Tryz.underlying41 hi h1 h2 h3 rfl (by omega) v n (xs.flatMap opE) hown ⟨g, 0, none⟩ 1 1 (opc o (Value.slice p1 n1 c1) (Value.slice p2 n2 c2)) rfl (fun j u hj => by
    rw [addr_add, Nat.zero_add, RG.cell j]
    simpa using hj) (fun u hu => by simp [opc] at hu; rcases hu with rfl | rfl | rfl | rfl | rfl | rfl | rfl | rfl <;> rfl) (by unfold maxLen; omega) (by omega) hB
  have hBB : Below B W w' := (Below.refl B W).grown k3 hB (fun k hk => (ownW_lt hown hk).1)
  exact ⟨v', w', hr, by rw [List.flatMap_append]; simpa [opE] using k2, hBB, fun b hb hne => k3.block b hb fun e => hne e.symm, k5, hBB.size⟩
def rawE (e : Sc.O × Value × Value) : Sc.Op := Sc.raw e.1
set_option maxHeartbeats 16000000 in
set_option maxRecDepth 100000 in
theorem scriptTexts_law (a : Option Addr) (len cap : Nat) (l : List (Sc.O × Value × Value)) (w : World) (hM : Glb13 w) (hl : l.length = len) (hok : ∀ x ∈ l, okO w x) (hE : ElsAt ovE 7 o0 w a l) (hlm : len ≤ 9223372036854775807) :
    Calls Tryz.prog 8 #[.slice a len cap] w fun e w' => e = .returned (.bool true) ∧ Below w.heap.size w w' := by
  subst hl
  have HA := Lib.hid (awake13 w hM)
  have HE := Lib.hid hE
  have HO := Lib.hid hok
  have HM := Lib.hid hM
  clear hM hok hE
  go_enter Tryz.func8, Tryz.ntmps8
  go_wp2_with fail
  refine HA.out.mono ?_
  rintro _ w1 ⟨rfl, hb1⟩
  have HB1 := Lib.hid hb1
  clear hb1
  by_cases h60 : 60 < l.length
  · have j60 : (60 : Int) < (l.length : Int) := by omega
    go_wp2_with fail
    go_ret
    exact ⟨rfl, HB1.out⟩
  · have j60 : ¬ (60 : Int) < (l.length : Int) := by omega
    have H60 := Lib.hid h60
    clear h60 hlm
    go_wp2_with fail
    clear j60
    go_loopw [3, 4, 15] (fun sv st iv wr => ∃ (k : Nat) (v : Value) (vals : List (Sc.Op × Value × Value)), k ≤ l.length ∧ iv = .int .i64 (k : Int) ∧ v = sv ∧ st = .string ⟨(Sc.print Dy.text ((l.take k).map rawE)).toArray⟩ ∧ wr.ownsRow w.heap.size 53 8 v k (vals.flatMap opE) ∧ vals.map (·.1) = (l.take k).map rawE ∧ (∀ e ∈ vals, okE wr e ∧ away wr e v.ownBlock) ∧ Below w.heap.size w wr) (fun _ _ iv _ => l.length - (intOf iv).toNat)
    case atStart => exact ⟨0, _, [], by omega, rfl, rfl, rfl, ⟨rfl, .inl ⟨rfl, rfl⟩⟩, rfl, (fun e he => by cases he), HB1.out⟩
    case round =>
      obtain ⟨k, sv, vals, hk, rfl, rfl, rfl, hown, hvals, hall, BB⟩ := hrel
      have h60 := H60.out
      have hcan : ∀ o ∈ (l.take k).map rawE, o.can := fun o ho => by
        obtain ⟨e, he, rfl⟩ := List.mem_map.1 ho
        exact Sc.raw_can _ (HO.out e (List.mem_of_mem_take he)).1
      have hpl := print_len _ hcan
      rw [List.length_map, List.length_take] at hpl
      obtain ⟨tx, htx⟩ : ∃ t, t = Sc.print Dy.text ((l.take k).map rawE) := ⟨_, rfl⟩
      rw [← htx] at hpl ⊢
      have HTX := Lib.hid htx
      clear htx
      have HOW := Lib.hid hown
      have HVA := Lib.hid hvals
      have HAL := Lib.hid hall
      have HB2 := Lib.hid BB
      clear hown hvals hall BB hcan
      by_cases hlt : k < l.length
      · have i0 : (0 : Int) ≤ (k : Int) := by omega
        have i1 : (k : Int) < (l.length : Int) := by omega
        obtain ⟨b, off, rfl, hcc⟩ : ∃ b off, a = some ⟨b, off, none⟩ ∧ ∀ i, i < l.length → w.rangeAt b (off + i * 7) (ovE (l.getD i o0)) := by
          rcases HE.out with h | h
          · rw [h] at hlt; simp at hlt
          · exact h
        have ck := range_below (hcc k hlt) HB2.out
        have hq := okO_below (HO.out _ (getD_mem (d := o0) hlt)) HB2.out
        have htk : (l.take (k + 1)).map rawE = (l.take k).map rawE ++ [rawE (l.getD k o0)] := by
          rw [List.take_succ_eq_append_getElem hlt, List.map_append, List.getD_eq_getElem?_getD, List.getElem?_eq_getElem hlt]
          rfl
        obtain ⟨q, hqq⟩ : ∃ q, q = l.getD k o0 := ⟨_, rfl⟩
        rw [← hqq] at ck hq htk
        obtain ⟨x, vp, vl⟩ := q
        have htk : (l.take (k + 1)).map rawE = (l.take k).map rawE ++ [Sc.raw x] := htk
        have hrc := Sc.raw_can x hq.1
        have hx := otext_len _ hrc
        have HQ := Lib.hid hq
        have HTK := Lib.hid htk
        have HRC := Lib.hid hrc
        have HLT := Lib.hid hlt
        have e9 : IntKind.i64.wrap ((k : Int) + 1) = (k : Int) + 1 := by rw [IntKind.wrap_i64]; omega
        have c0 : wr.cell? ⟨b, off + k * 7, none⟩ = some (.int .u8 (x.kind : Int)) := ck 0 _ rfl
        have c1 : wr.cell? ⟨b, off + k * 7 + 1, none⟩ = some (.int .u8 (x.a : Int)) := ck 1 _ rfl
        have c2 : wr.cell? ⟨b, off + k * 7 + 2, none⟩ = some (.int .u8 (x.b : Int)) := ck 2 _ rfl
        have c3 : wr.cell? ⟨b, off + k * 7 + 3, none⟩ = some (.int .u8 (x.nm : Int)) := ck 3 _ rfl
        have c4 : wr.cell? ⟨b, off + k * 7 + 4, none⟩ = some vp := ck 4 _ rfl
        have c5 : wr.cell? ⟨b, off + k * 7 + 5, none⟩ = some (.int .i16 x.first) := ck 5 _ rfl
        have c6 : wr.cell? ⟨b, off + k * 7 + 6, none⟩ = some vl := ck 6 _ rfl
        clear hk hlt hcc ck hq htk hrc hqq
        obtain ⟨pp, np, cp, rfl⟩ : ∃ p n c, vp = .slice p n c := by obtain ⟨p, c, e, _⟩ := HQ.out.2.1; exact ⟨_, _, _, e⟩
        obtain ⟨ps, ns, cs, rfl⟩ : ∃ p n c, vl = .slice p n c := by obtain ⟨p, c, e, _⟩ := HQ.out.2.2; exact ⟨_, _, _, e⟩
        go_wp2_with fail
        have BA := below_alloc (Below.refl _ wr) (.cells (ov x (.slice pp np cp) (.slice ps ns cs)).toArray 46)
        have hqa := okO_below HQ.out BA
        refine (raw_any x HQ.out.1 _ _ (wr.alloc (.cells (ov x (.slice pp np cp) (.slice ps ns cs)).toArray 46)) hqa.2.1 hqa.2.2).mono ?_
        rintro _ w2 ⟨v1, v2, rfl, hp, hn, hf1, hf2, hb2⟩
        have B2 := below_then BA hb2
        have hsz2 := BA.size
        have HOW2 := Lib.hid (ownW_below HOW.out B2)
        have HAL2 : Hid (∀ e ∈ vals, okE w2 e ∧ ∀ g, (e.2.1.ownBlock = some g ∨ e.2.2.ownBlock = some g) → g < wr.heap.size ∧ sv.ownBlock ≠ some g) := Lib.hid fun e he => ⟨okE_below (HAL.out e he).1 B2, (HAL.out e he).2⟩
        obtain ⟨q1, m1, y1, rfl⟩ : ∃ p n c, v1 = .slice p n c := by obtain ⟨p, c, e, _⟩ := hp; exact ⟨_, _, _, e⟩
        obtain ⟨q2, m2, y2, rfl⟩ : ∃ p n c, v2 = .slice p n c := by obtain ⟨p, c, e, _⟩ := hn; exact ⟨_, _, _, e⟩
        obtain ⟨ro, hro⟩ : ∃ o, o = Sc.raw x := ⟨_, rfl⟩
        rw [← hro] at hp hn HRC HTK hx ⊢
        have hnew : okE w2 (ro, .slice q1 m1 y1, .slice q2 m2 y2) := ⟨HRC.out, hp, hn⟩
        have haw : ∀ g, ((Value.slice q1 m1 y1).ownBlock = some g ∨ (Value.slice q2 m2 y2).ownBlock = some g) → g < w2.heap.size ∧ sv.ownBlock ≠ some g := fun g hg => by
          have h1 : (wr.alloc (.cells (ov x (.slice pp np cp) (.slice ps ns cs)).toArray 46)).heap.size ≤ g ∧ g < w2.heap.size := by
            rcases hg with hg | hg
            · exact hf1 g hg
            · exact hf2 g hg
          refine ⟨h1.2, fun e => ?_⟩
          have := (ownW_lt HOW.out e).2
          omega
        have HNEW := Lib.hid hnew
        have HAW := Lib.hid haw
        have HBW2 := Lib.hid (below_then HB2.out B2)
        have HWS := Lib.hid B2.size
        have HX := Lib.hid hx
        have HPL := Lib.hid hpl
        clear hp hn hf1 hf2 hb2 B2 BA hqa c0 c1 c2 c3 c4 c5 c6 hnew haw hro hsz2 hx hpl
        unfold opc
        go_wp2_with fail
        have hw4 : Below w2.heap.size w2 (w2.alloc (.cells #[.int .i64 (ro.kind : Int), .int .u32 (ro.fr : Int), .int .u32 (ro.too : Int), .string ⟨ro.name.toArray⟩, .slice q1 m1 y1, .slice q2 m2 y2, .int .i32 ro.fin, .int .i64 (ro.pos : Int)] 53)) := below_alloc (Below.refl _ w2) _
        have R4' : Row (w2.alloc (.cells #[.int .i64 (ro.kind : Int), .int .u32 (ro.fr : Int), .int .u32 (ro.too : Int), .string ⟨ro.name.toArray⟩, .slice q1 m1 y1, .slice q2 m2 y2, .int .i32 ro.fin, .int .i64 (ro.pos : Int)] 53)) w2.heap.size #[.int .i64 (ro.kind : Int), .int .u32 (ro.fr : Int), .int .u32 (ro.too : Int), .string ⟨ro.name.toArray⟩, .slice q1 m1 y1, .slice q2 m2 y2, .int .i32 ro.fin, .int .i64 (ro.pos : Int)] 53 := Row.new _ _ _
        obtain ⟨g7, hgg⟩ : ∃ g, g = w2.heap.size := ⟨_, rfl⟩
        rw [← hgg] at R4' ⊢
        have hg7 : w2.heap.size ≤ g7 := by omega
        clear hgg
        generalize w2.alloc (.cells #[.int .i64 (ro.kind : Int), .int .u32 (ro.fr : Int), .int .u32 (ro.too : Int), .string ⟨ro.name.toArray⟩, .slice q1 m1 y1, .slice q2 m2 y2, .int .i32 ro.fin, .int .i64 (ro.pos : Int)] 53) = w4 at *
        have HR4 := Lib.hid R4'
        have HW4 := Lib.hid hw4
        have HG7 := Lib.hid hg7
        have HBW4 := Lib.hid (below_then HBW2.out hw4)
        have hok4 := okE_below HNEW.out hw4
        have HOK4 := Lib.hid hok4
        have d0 : ∀ n : QW (fun w' => Below w4.heap.size w4 w'), n.w.cell? ⟨g7, 0, none⟩ = some (.int .i64 (ro.kind : Int)) := fun n => (HR4.out.below n.h).cell 0
        have d1 : ∀ n : QW (fun w' => Below w4.heap.size w4 w'), n.w.cell? ⟨g7, 1, none⟩ = some (.int .u32 (ro.fr : Int)) := fun n => (HR4.out.below n.h).cell 1
        have d2 : ∀ n : QW (fun w' => Below w4.heap.size w4 w'), n.w.cell? ⟨g7, 2, none⟩ = some (.int .u32 (ro.too : Int)) := fun n => (HR4.out.below n.h).cell 2
        have d3 : ∀ n : QW (fun w' => Below w4.heap.size w4 w'), n.w.cell? ⟨g7, 3, none⟩ = some (.string ⟨ro.name.toArray⟩) := fun n => (HR4.out.below n.h).cell 3
        have d4 : ∀ n : QW (fun w' => Below w4.heap.size w4 w'), n.w.cell? ⟨g7, 4, none⟩ = some (.slice q1 m1 y1) := fun n => (HR4.out.below n.h).cell 4
        have d5 : ∀ n : QW (fun w' => Below w4.heap.size w4 w'), n.w.cell? ⟨g7, 5, none⟩ = some (.slice q2 m2 y2) := fun n => (HR4.out.below n.h).cell 5
        have d6 : ∀ n : QW (fun w' => Below w4.heap.size w4 w'), n.w.cell? ⟨g7, 6, none⟩ = some (.int .i32 ro.fin) := fun n => (HR4.out.below n.h).cell 6
        have d7 : ∀ n : QW (fun w' => Below w4.heap.size w4 w'), n.w.cell? ⟨g7, 7, none⟩ = some (.int .i64 (ro.pos : Int)) := fun n => (HR4.out.below n.h).cell 7
        have H1 : Hid (∀ n : QW (fun w' => Below w4.heap.size w4 w'), Calls Tryz.prog 21 #[.agg #[.int .i64 (ro.kind : Int), .int .u32 (ro.fr : Int), .int .u32 (ro.too : Int), .string ⟨ro.name.toArray⟩, .slice q1 m1 y1, .slice q2 m2 y2, .int .i32 ro.fin, .int .i64 (ro.pos : Int)]] n.w fun e w'' => e = .returned (.string (⟨(Sc.text Dy.text ro).toArray⟩ : ByteArray)) ∧ ∃ m : QW (fun w' => Below w4.heap.size w4 w'), w'' = m.w) := Lib.hid fun n => quiet1 (fun _ _ a b => below_then a b) n (otext_any ro _ _ HRC.out n.w (HOK4.out.2.1.below n.h) (HOK4.out.2.2.below n.h) (HM.out.below (below_then HBW4.out n.h)))
        have H2 : Hid (∀ n : QW (fun w' => Below w4.heap.size w4 w'), Calls Tryz.prog 22 #[.agg #[.int .i64 (ro.kind : Int), .int .u32 (ro.fr : Int), .int .u32 (ro.too : Int), .string ⟨ro.name.toArray⟩, .slice q1 m1 y1, .slice q2 m2 y2, .int .i32 ro.fin, .int .i64 (ro.pos : Int)]] n.w fun e w'' => e = .returned (.string (⟨(Sc.text Dy.text ro).toArray⟩ : ByteArray)) ∧ ∃ m : QW (fun w' => Below w4.heap.size w4 w'), w'' = m.w) := Lib.hid fun n => quiet1 (fun _ _ a b => below_then a b) n (ltext_any ro _ _ HRC.out n.w (HOK4.out.2.1.below n.h) (HOK4.out.2.2.below n.h) (HM.out.below (below_then HBW4.out n.h)))
        clear R4' hw4 hg7 hok4
        refine region_quietS (fun w' => Below w4.heap.size w4 w') (by kernel_rfl) (by kernel_rfl) (below_dr (Below.refl _ _)) (fun hne => ?_)
        repeat (go_big_quiet_step (first | (with_reducible exact H1.out _) | (with_reducible exact H2.out _)))
        refine wpQuiet_nil ?_
        intro wy hw'
        have S : Below w4.heap.size w4 wy := by
          obtain ⟨⟨wz, S⟩, hz⟩ := hw'
          rw [hz]
          exact S
        clear hw'
        have B4y : Below w2.heap.size w2 wy := below_then HW4.out S
        have RY : Row wy g7 #[.int .i64 (ro.kind : Int), .int .u32 (ro.fr : Int), .int .u32 (ro.too : Int), .string ⟨ro.name.toArray⟩, .slice q1 m1 y1, .slice q2 m2 y2, .int .i32 ro.fin, .int .i64 (ro.pos : Int)] 53 := HR4.out.below S
        have BAy := below_alloc (Below.refl _ wy) (.cells #[.int .i64 (ro.kind : Int), .int .u32 (ro.fr : Int), .int .u32 (ro.too : Int), .string ⟨ro.name.toArray⟩, .slice q1 m1 y1, .slice q2 m2 y2, .int .i32 ro.fin, .int .i64 (ro.pos : Int)] 53)
        have BYW := below_then (below_then HBW2.out B4y) BAy
        obtain ⟨v6, w6, hr6, ho6, hb6, hk6, hv6, hsz6⟩ := append_op (wy.alloc (.cells #[.int .i64 (ro.kind : Int), .int .u32 (ro.fr : Int), .int .u32 (ro.too : Int), .string ⟨ro.name.toArray⟩, .slice q1 m1 y1, .slice q2 m2 y2, .int .i32 ro.fin, .int .i64 (ro.pos : Int)] 53)) w.heap.size 41 sv k vals (own_alloc (ownW_below HOW2.out B4y) _) wy.heap.size ro q1 q2 m1 m2 y1 y2 (Row.new wy _ _) (by omega) BYW.size
        have hs1 := B4y.size
        have hs2 := BAy.size
        have hs3 := HWS.out
        have RX6 : Row w6 g7 #[.int .i64 (ro.kind : Int), .int .u32 (ro.fr : Int), .int .u32 (ro.too : Int), .string ⟨ro.name.toArray⟩, .slice q1 m1 y1, .slice q2 m2 y2, .int .i32 ro.fin, .int .i64 (ro.pos : Int)] 53 := (hk6 g7 (RY.alloc _).lt (fun e => by have := (ownW_lt HOW2.out e).2; have := HG7.out; omega)).trans (RY.alloc _)
        have B6 : Below w.heap.size w w6 := BYW.trans hb6
        have hall6 : ∀ e ∈ vals ++ [(ro, Value.slice q1 m1 y1, Value.slice q2 m2 y2)], okE w6 e ∧ away w6 e v6.ownBlock := fun e he => by
          have key : okE w2 e ∧ ∀ g, (e.2.1.ownBlock = some g ∨ e.2.2.ownBlock = some g) → g < w2.heap.size ∧ sv.ownBlock ≠ some g := by
            rcases List.mem_append.1 he with he | he
            · exact ⟨(HAL2.out e he).1, fun g hg => by have := (HAL2.out e he).2 g hg; exact ⟨by omega, this.2⟩⟩
            · obtain rfl := List.mem_singleton.1 he
              exact ⟨HNEW.out, HAW.out⟩
          refine ⟨okE_kept (okE_below (okE_below key.1 B4y) BAy) (o := sv.ownBlock) (fun g hg => by have := key.2 g hg; exact ⟨by omega, this.2⟩) hk6, fun g hg => ?_⟩
          have hgg := key.2 g hg
          refine ⟨by omega, ?_⟩
          rcases hv6 with e | e
          · rw [e]; exact hgg.2
          · rw [e]; intro e2; injection e2 with e2; omega
        have HALL6 := Lib.hid hall6
        have HOW6 := Lib.hid ho6
        have HB6 := Lib.hid B6
        have HR6 := Lib.hid hr6
        clear d0 d1 d2 d3 d4 d5 d6 d7 hr6 ho6 hb6 hk6 hv6 hsz6 hall6 B6 B4y BAy BYW hs1 hs2 hs3
        go_wp2_with (first
          | (refine ev_load (N := 27) rfl rfl 53 (Operand.tmp 7) rfl g7 rfl RY _ Tryz.underlying53 rfl (by kernel_rfl) ?_)
          | (at_builtin; refine ev_run rfl (run_app_op _ _ _ _ rfl rfl rfl HR6.out) ?_)
          | (refine ev_load (N := 31) rfl rfl 53 (Operand.tmp 7) rfl g7 rfl RX6 _ Tryz.underlying53 rfl (by kernel_rfl) ?_))
        have hok6 := (HALL6.out _ (List.mem_append_right _ (List.mem_singleton.2 rfl))).1
        refine (ltext_any ro (.slice q1 m1 y1) (.slice q2 m2 y2) HRC.out w6 hok6.2.1 hok6.2.2 (HM.out.below HB6.out)).mono ?_
        rintro _ w7 ⟨rfl, hb7⟩
        have HOW7 := Lib.hid (ownW_below HOW6.out hb7)
        have HALL7 := Lib.hid fun e he => (And.intro (okE_below (HALL6.out e he).1 hb7) (fun g hg => (And.intro (Nat.lt_of_lt_of_le ((HALL6.out e he).2 g hg).1 hb7.size) ((HALL6.out e he).2 g hg).2 : _ ∧ _)) : _ ∧ away w7 e v6.ownBlock)
        have HB7 := Lib.hid (below_then HB6.out hb7)
        clear hok6 hb7 RX6
        have hx1 : (Sc.text Dy.text ro).length + 1 ≤ 9223372036854775807 := by have := HX.out; omega
        have hx2 : tx.length + ((Sc.text Dy.text ro).length + 1) ≤ 9223372036854775807 := by have := HX.out; have := HPL.out; omega
        go_wp2_with fail
        refine ⟨⟨k + 1, _, vals ++ [(ro, .slice q1 m1 y1, .slice q2 m2 y2)], by have := HLT.out; omega, by simp, rfl, ?_, HOW7.out, by rw [HTK.out, List.map_append, HVA.out]; rfl, HALL7.out, HB7.out⟩, by have := HLT.out; simp [intOf]; omega⟩
        rw [HTK.out, print_snoc, ← HTX.out]
        refine congrArg Value.string ?_
        apply ByteArray.ext
        simp
      · have i1 : ¬ (k : Int) < (l.length : Int) := by omega
        obtain rfl : k = l.length := by omega
        obtain ⟨hll, p9, c9, rfl, hE9⟩ := els_ownG opE 8 opE0 (fun _ => rfl) (by omega) HOW.out
        have hva := HVA.out
        have HP := Lib.hid (print_any vals p9 c9 wr hE9 (fun e he => (HAL.out e he).1) (by omega) (HM.out.below HB2.out))
        rw [hva, ← HTX.out] at HP
        clear hE9 hll hva hlt hk hpl h60
        go_wp2_with fail
        refine HP.out.mono ?_
        rintro _ w5 ⟨rfl, hb5⟩
        go_wp2_with fail
        go_ret
        exact ⟨rfl, below_then HB2.out hb5⟩
end Go.Proofs.YtbnhodpbamijkaaGreatDoor

namespace Go.Proofs.YtbnhodpbamijkaaGreatDoor
open Go.RowKit
set_option linter.unusedVariables false
set_option linter.unusedSimpArgs false

/-- their slices are slices -/
def slc (e : Sc.Op × Value × Value) : Prop := (∃ p n c, e.2.1 = .slice p n c) ∧ ∃ p n c, e.2.2 = .slice p n c
theorem okE_slc {W : World} {e : Sc.Op × Value × Value} (h : okE W e) : slc e := by
  obtain ⟨_, ⟨p, c, e1, _⟩, ⟨q, d, e2, _⟩⟩ := h
  exact ⟨⟨_, _, _, e1⟩, ⟨_, _, _, e2⟩⟩
theorem ops_one (l : List (Sc.Op × Value × Value)) (h : ∀ e ∈ l, slc e) : ∀ u ∈ l.flatMap opE, u.oneCell' = true := fun u hu => by
  obtain ⟨e, he, hu⟩ := List.mem_flatMap.1 hu
  obtain ⟨o, v1, v2⟩ := e
  obtain ⟨⟨p, n, c, e1⟩, ⟨q, m, d, e2⟩⟩ := h _ he
  have e1 : v1 = .slice p n c := e1
  have e2 : v2 = .slice q m d := e2
  subst e1
  subst e2
  simp [opE, opc] at hu
  rcases hu with rfl | rfl | rfl | rfl | rfl | rfl | rfl | rfl <;> rfl
theorem append_own2 (W : World) (B : Nat) (ty : TypeId) (v v2 : Value) (n m : Nat) (xs ys : List (Sc.Op × Value × Value)) (hown : W.ownsRow B 53 8 v n (xs.flatMap opE)) {B2 : Nat} (hown2 : W.ownsRow B2 53 8 v2 m (ys.flatMap opE)) (hys : ∀ e ∈ ys, slc e)
    (hn : n ≤ 100000 ∧ m ≤ 100000) (hB : B ≤ W.heap.size) :
    ∃ v' w', (Builtin.append_ #[41, 41] ty #[v, v2]).run Tryz.prog W = .ok v' w' ∧ w'.ownsRow B 53 8 v' (n + m) ((xs ++ ys).flatMap opE) ∧ Below B W w' ∧ (∀ b, b < W.heap.size → v.ownBlock ≠ some b → w'.heap[b]? = W.heap[b]?) := by
  obtain ⟨i, hi, h1, h2, h3⟩ := info_op
  obtain ⟨q, c, rfl⟩ := own_slice hown2
  by_cases hq : ∃ g, q = some ⟨g, 0, none⟩
  · obtain ⟨g, rfl⟩ := hq
    have hly : (ys.flatMap opE).length = m * 8 := hown2.1
    obtain ⟨v', w', hr, k2, k3, k4, k5⟩ := run_append_own_at (P := Tryz.prog) W B 41 ty 53 i (.agg (opE opE0).toArray) 8 96 Tryz.underlying41 hi h1 h2 h3 rfl (by omega) v n (xs.flatMap opE) hown ⟨g, 0, none⟩ m c (ys.flatMap opE) hly (fun j u hj => by
      have hjl : j < m * 8 := by
        by_cases c : j < m * 8
        · exact c
        · rw [List.getElem?_eq_none (by omega)] at hj; cases hj
      rw [addr_add, Nat.zero_add, hown2.cellAt j hjl, hj]) (ops_one ys hys) (by unfold maxLen; omega) (by omega) hB
    have hBB : Below B W w' := (Below.refl B W).grown k3 hB (fun k hk => (ownW_lt hown hk).1)
    exact ⟨v', w', hr, by rw [List.flatMap_append]; exact k2, hBB, fun b hb hne => k3.block b hb fun e => hne e.symm⟩
  · obtain ⟨h4, h5⟩ := hown2
    rcases h5 with ⟨e1, e2⟩ | ⟨g, cap, cur, e1, _⟩
    · have hm : m = 0 := by injection e1
      have hy : ys.flatMap opE = [] := List.length_eq_zero_iff.1 (by rw [h4, hm])
      rw [e1]
      refine ⟨v, W, run_append_owned_none W B 41 ty 53 i 8 Tryz.underlying41 hi v n _ hown, ?_, Below.refl _ _, fun _ _ _ => rfl⟩
      rw [List.flatMap_append, hy, hm, List.append_nil]
      exact hown
    · injection e1 with e1
      exact absurd ⟨g, e1⟩ hq
set_option maxHeartbeats 4000000 in
set_option maxRecDepth 100000 in
theorem clone_ops (w : World) (B : Nat) (v : Value) (n : Nat) (xs : List (Sc.Op × Value × Value)) (hown : w.ownsRow B 53 8 v n (xs.flatMap opE)) (hxs : ∀ e ∈ xs, slc e) (hn : n ≤ 100000) :
    Calls Tryz.prog 25 #[v] w fun e w' => ∃ v', e = .returned v' ∧ w'.ownsRow w.heap.size 53 8 v' n (xs.flatMap opE) ∧ Below w.heap.size w w' := by
  obtain ⟨q, c, rfl⟩ := own_slice hown
  have q22 : ∀ (w : World) (a : Option Addr) (n c n' c' : Nat), (binOp .eql 41 (.slice a n c) (.slice none n' c')).run Tryz.prog w = .ok (.bool a.isNone) w := fun w a n c n' c' => Lib.run_eql_slice_nil w _ _ a n c n' c' Tryz.underlying41
  by_cases hq : ∃ g, q = some ⟨g, 0, none⟩
  · obtain ⟨g, rfl⟩ := hq
    have hz := World.ownsRow_made (base := w.heap.size) (e := 53) (size := 8) w #[] 0 (Nat.le_refl _) (Nat.zero_le _) (by simp)
    obtain ⟨v', w', hr, ho, hb, _⟩ := append_own2 (w.alloc (.cells #[] 53)) w.heap.size 41 _ (.slice (some ⟨g, 0, none⟩) n c) 0 n [] xs hz (own_alloc hown _) hxs (by omega) (by simp)
    have HR := Lib.hid hr
    have HO := Lib.hid ho
    have HB := Lib.hid ((below_alloc (Below.refl _ w) (.cells #[] 53)).trans hb)
    clear hr ho hb hz hown
    go_enter Tryz.func25, Tryz.ntmps25
    go_wp2_with (first | (at_builtin; refine ev_run rfl (run_app_op _ _ _ _ rfl rfl rfl HR.out) ?_))
    go_ret
    refine ⟨v', rfl, ?_, HB.out⟩
    have := HO.out
    rw [Nat.zero_add] at this
    exact this
  · obtain ⟨h4, h5⟩ := hown
    rcases h5 with ⟨e1, e2⟩ | ⟨g, cap, cur, e1, _⟩
    · have hq0 : q = none := by injection e1
      have hn0 : n = 0 := by injection e1
      have hc0 : c = 0 := by injection e1
      subst hq0
      subst hn0
      subst hc0
      clear hq e1
      go_enter Tryz.func25, Tryz.ntmps25
      go_wp2
      go_ret
      exact ⟨.slice none 0 0, rfl, ⟨h4, .inl ⟨rfl, rfl⟩⟩, Below.refl _ _⟩
    · injection e1 with e1
      exact absurd ⟨g, e1⟩ hq
end Go.Proofs.YtbnhodpbamijkaaGreatDoor
