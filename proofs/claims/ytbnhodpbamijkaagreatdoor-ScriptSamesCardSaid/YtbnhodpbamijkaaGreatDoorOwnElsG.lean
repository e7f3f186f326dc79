/-
  Own texts, several in one (ElsG, Print13, Name6).
-/
import Derived.Test.YtbnhodpbamijkaaGreatDoorOwnLText
import Derived.Test.YtbnhodpbamijkaaGreatDoorMrg27
import Derived.Test.YtbnhodpbamijkaaGreatDoorMrg28
import Derived.Shelf.Strings.Builder1
namespace Go.Proofs.YtbnhodpbamijkaaGreatDoor
open Go.RowKit
set_option linter.unusedVariables false
set_option linter.unusedSimpArgs false

theorem flat_len {E : Type} (f : E → List Value) (sz : Nat) (hf : ∀ x, (f x).length = sz) : ∀ l : List E, (l.flatMap f).length = l.length * sz
  | [] => by simp
  | x :: l => by rw [List.flatMap_cons, List.length_append, hf, flat_len f sz hf l, List.length_cons, Nat.succ_mul, Nat.add_comm]
theorem flat_get {E : Type} (f : E → List Value) (sz : Nat) (d : E) (hf : ∀ x, (f x).length = sz) : ∀ (l : List E) (i : Nat), i < l.length → ∀ j v, (f (l.getD i d))[j]? = some v → (l.flatMap f)[i * sz + j]? = some v
  | [], i, h, _, _, _ => by simp at h
  | x :: l, i, hi, j, v, hv => by
    rw [List.flatMap_cons]
    rcases i with _ | i
    · have hj : j < (f x).length := by
        by_cases c : j < (f x).length
        · exact c
        · exact absurd (show (f x)[j]? = some v from hv) (by rw [List.getElem?_eq_none (by omega)]; simp)
      rw [Nat.zero_mul, Nat.zero_add, List.getElem?_append_left hj]
      simpa using hv
    · rw [List.getElem?_append_right (by rw [hf, Nat.succ_mul]; omega), hf, show (i + 1) * sz + j - sz = i * sz + j by rw [Nat.succ_mul]; omega]
      exact flat_get f sz d hf l i (by simpa using hi) j v (by simpa using hv)
theorem els_ownG {E : Type} (f : E → List Value) (sz : Nat) (d : E) (hf : ∀ x, (f x).length = sz) (hsz : 0 < sz) {w : World} {B n : Nat} {e : TypeId} {v : Value} {l : List E} (h : w.ownsRow B e sz v n (l.flatMap f)) : l.length = n ∧ ∃ p cap, v = .slice p l.length cap ∧ ElsAt f sz d w p l := by
  obtain ⟨h1, h2⟩ := h
  have hl : l.length = n := by
    rw [flat_len f sz hf] at h1
    exact Nat.eq_of_mul_eq_mul_right hsz h1
  refine ⟨hl, ?_⟩
  rcases h2 with ⟨rfl, rfl⟩ | ⟨g, cap, cur, rfl, _, hh, _, _, hs, ht⟩
  · exact ⟨none, 0, by rw [hl], .inl (List.length_eq_zero_iff.1 hl)⟩
  · refine ⟨_, cap, by rw [hl], .inr ⟨g, 0, rfl, fun i hi j v hv => ?_⟩⟩
    have hj : j < sz := by
      by_cases c : j < sz
      · exact c
      · rw [List.getElem?_eq_none (by rw [hf]; omega)] at hv; cases hv
    have hg := flat_get f sz d hf l i hi j v hv
    have hlt : i * sz + j < n * sz := by
      have := Nat.mul_le_mul_right sz (show i + 1 ≤ n by omega)
      rw [Nat.succ_mul] at this
      omega
    rw [← ht, List.getElem?_take, if_pos (by omega)] at hg
    rw [cell_of_row w g _ cur e _ hh, show 0 + i * sz + j = i * sz + j by omega]
    simpa using hg
theorem info_part : ∃ i, Tryz.prog.info? 79 = some i ∧ i.zero = some (.agg (ptv (0, 0)).toArray) ∧ i.size = 2 ∧ i.bytes = 16 := by
  have hi0 : (Tryz.prog.info? 79).map (fun i => (i.zero, i.size, i.bytes)) = some (some (.agg (ptv (0, 0)).toArray), 2, 16) := by kernel_rfl
  obtain ⟨i, hi, h⟩ := Option.map_eq_some_iff.1 hi0
  simp only [Prod.mk.injEq] at h
  exact ⟨i, hi, h.1, h.2.1, h.2.2⟩
theorem append_pt (W : World) (B : Nat) (ty : TypeId) (v : Value) (n : Nat) (xs : List (Nat × Nat)) (hown : W.ownsRow B 79 2 v n (xs.flatMap ptv)) (g : Nat) (z : Nat × Nat) (RG : Row W g (ptv z).toArray 79) (hn : n ≤ 100000) (hB : B ≤ W.heap.size) :
    ∃ v' w', (Builtin.append_ #[48, 48] ty #[v, .slice (some ⟨g, 0, none⟩) 1 1]).run Tryz.prog W = .ok v' w' ∧ w'.ownsRow B 79 2 v' (n + 1) ((xs ++ [z]).flatMap ptv) ∧ Below B W w' ∧ ∀ b cs t, Row W b cs t → t ≠ 79 → Row w' b cs t := by
  obtain ⟨i, hi, h1, h2, h3⟩ := info_part
  obtain ⟨v', w', hr, k2, k3, k4, k5⟩ := run_append_own_at (P := Tryz.prog) W B 48 ty 79 i (.agg (ptv (0, 0)).toArray) 2 16 Tryz.underlying48 hi h1 h2 h3 rfl (by omega) v n (xs.flatMap ptv) hown ⟨g, 0, none⟩ 1 1 (ptv z) rfl (fun j u hj => by
    rw [addr_add, Nat.zero_add, RG.cell j]
    simpa using hj) (fun u hu => by simp [ptv] at hu; rcases hu with rfl | rfl <;> rfl) (by unfold maxLen; omega) (by omega) hB
  refine ⟨v', w', hr, by rw [List.flatMap_append]; simpa using k2, (Below.refl B W).grown k3 hB (fun k hk => (ownW_lt hown hk).1), fun b cs t R ht => (k3.block b R.lt ?_).trans R⟩
  intro e
  obtain ⟨cs2, h⟩ := own_cells hown e.symm
  have h2 := h.symm.trans R
  simp at h2
  exact ht h2.2.symm
end Go.Proofs.YtbnhodpbamijkaaGreatDoor

namespace Go.Proofs.YtbnhodpbamijkaaGreatDoor
open Go.RowKit
set_option linter.unusedVariables false
set_option linter.unusedSimpArgs false

def opE (e : Sc.Op × Value × Value) : List Value := opc e.1 e.2.1 e.2.2
def opE0 : Sc.Op × Value × Value := (⟨0, 0, 0, [], [], [], 0, 0⟩, .slice none 0 0, .slice none 0 0)
def okE (W : World) (e : Sc.Op × Value × Value) : Prop := e.1.can ∧ PtsAt W e.2.1 e.1.parts ∧ NsAt .i32 W e.2.2 e.1.starts
theorem okE_below {W W' : World} {e : Sc.Op × Value × Value} (h : okE W e) (hb : Below W.heap.size W W') : okE W' e := ⟨h.1, h.2.1.below hb, h.2.2.below hb⟩
theorem otext_len (o : Sc.Op) (ho : o.can) : (Sc.text Dy.text o).length ≤ 20000 := by
  have hd : ∀ n, n ≤ 4294967295 → (Sc.dec n).length ≤ 20 := fun n hn => dec_len n (by omega)
  have hk := ho.kind
  have hw : ∀ k, k < 8 → (Sc.word k).length ≤ 8 := word_len
  have hl : ∀ k, k < 8 → (Sc.link k).length ≤ 8 := link_len
  have a := hd o.fr ho.fr
  have b := hd o.too ho.too
  have c := dtext_len o.fin
  have d := flat_days o.starts
  have hn := ho.name
  have hs := ho.starts
  have hp : (Sc.partsT o.parts).length ≤ 5000 := by
    rcases h : o.parts with _ | ⟨p, r⟩
    · simp [Sc.partsT]
    · have hj := join_parts p r
      have hpl := prts_len (p :: r) (by rw [← h]; exact ho.parts.2.2)
      have e : (Lib.join ((p :: r).map prt) [44, 32]).length + 1 = (Sc.partsT (p :: r)).length := by rw [← hj]; rfl
      have := ho.parts.2.1
      rw [h] at this
      omega
  unfold Sc.text
  have w1 := hw 1 (by omega)
  have w4 := hw 4 (by omega)
  have w7 := hw 7 (by omega)
  have wk := hw o.kind hk
  have l4 := hl 4 (by omega)
  have l7 := hl 7 (by omega)
  have lk := hl o.kind hk
  repeat' split
  all_goals
    simp only [List.length_append, List.length_cons, List.length_nil]
    omega
theorem builder_below {T e : TypeId} {B b : Nat} {bs : List Value} {w w' : World} (h : Lib.IsBuilder T e B b bs w) (hb : Below w.heap.size w w') : Lib.IsBuilder T e B b bs w' := by
  rcases h with ⟨h1, v, h2, h3, h4⟩ | ⟨h1, v, h2, h3, h4⟩
  · exact .inl ⟨h1, v, Row.below h2 hb, ownW_below h3 hb, h4⟩
  · exact .inr ⟨h1, v, Row.below h2 hb, ownW_below h3 hb, h4⟩
theorem bwrite_any (B b : Nat) (xs ys : List UInt8) (W : World) (h : Lib.IsBuilder 71 5 B b (Lib.byteCells xs) W) (hlen : xs.length + ys.length ≤ 1000000000) (hB : B ≤ W.heap.size) :
    Calls Tryz.prog 34 #[.pointer (some ⟨b, 0, none⟩), .string ⟨ys.toArray⟩] W fun e w' => (∃ v, e = .returned v) ∧ Lib.IsBuilder 71 5 B b (Lib.byteCells (xs ++ ys)) w' ∧ Below B W w' :=
  (Any.Builder_WriteString { Tryz.lays156 with } Tryz.Builder_Extra_156 B b (Lib.byteCells xs) ⟨ys.toArray⟩ W h (by
    have e : (⟨ys.toArray⟩ : ByteArray).size = ys.length := by simp [ByteArray.size]
    rw [e]
    simp only [Lib.byteCells, List.length_map]
    omega) hB).mono fun e w' ⟨h1, h2, h3⟩ => ⟨⟨_, h1⟩, by rw [Lib.byteCells_append]; exact .inr h2, h3⟩
theorem bstring_any (B b : Nat) (xs : List UInt8) (W : World) (h : Lib.IsBuilder 71 5 B b (Lib.byteCells xs) W) (hB : B ≤ W.heap.size) :
    Calls Tryz.prog 36 #[.pointer (some ⟨b, 0, none⟩)] W fun e w' => e = .returned (.string ⟨xs.toArray⟩) ∧ Below B W w' :=
  Any.Builder_String_any { Tryz.lays156 with } Tryz.Builder_Extra_156 B b xs W h hB
theorem print_snoc (l : List Sc.Op) (o : Sc.Op) : Sc.print Dy.text (l ++ [o]) = Sc.print Dy.text l ++ (Sc.text Dy.text o ++ [10]) := by
  unfold Sc.print
  rw [List.flatMap_append]
  simp
theorem print_len : ∀ (l : List Sc.Op), (∀ o ∈ l, o.can) → (Sc.print Dy.text l).length ≤ 20001 * l.length
  | [], _ => by simp [Sc.print]
  | o :: l, h => by
    have h1 := print_len l fun x hx => h x (List.mem_cons_of_mem _ hx)
    have h2 := otext_len o (h o (by simp))
    have e : (Sc.print Dy.text (o :: l)).length = (Sc.text Dy.text o).length + 1 + (Sc.print Dy.text l).length := by
      unfold Sc.print
      rw [List.flatMap_cons, List.length_append, List.length_append, List.length_singleton]
    rw [e, List.length_cons]
    omega
set_option maxHeartbeats 8000000 in
set_option maxRecDepth 100000 in
theorem print_any (l : List (Sc.Op × Value × Value)) (p : Option Addr) (cap : Nat) (w : World) (hE : ElsAt opE 8 opE0 w p l) (hok : ∀ e ∈ l, okE w e) (hlen : l.length ≤ 100) (hM : Glb13 w) :
    Calls Tryz.prog 23 #[.slice p l.length cap] w fun e w' => e = .returned (.string ⟨(Sc.print Dy.text (l.map (·.1))).toArray⟩) ∧ Below w.heap.size w w' := by
  have HE := Lib.hid hE
  have HO := Lib.hid hok
  have HM := Lib.hid hM
  have HLN := Lib.hid hlen
  clear hE hok hM hlen
  go_enter Tryz.func23, Tryz.ntmps23
  go_wp2_with fail
  have RB := Row.new w #[.pointer none, .slice none 0 0] 71
  have B0 := below_alloc (Below.refl _ w) (.cells #[.pointer none, .slice none 0 0] 71)
  have hIB : Lib.IsBuilder 71 5 w.heap.size w.heap.size (Lib.byteCells []) (w.alloc (.cells #[.pointer none, .slice none 0 0] 71)) := .inl ⟨Nat.le_refl _, .slice none 0 0, RB, ⟨rfl, .inl ⟨rfl, rfl⟩⟩, by simp [Value.ownBlock]⟩
  obtain ⟨gb, hgb⟩ : ∃ g, g = w.heap.size := ⟨_, rfl⟩
  have HIB : Hid (Lib.IsBuilder 71 5 w.heap.size gb (Lib.byteCells []) (w.alloc (.cells #[.pointer none, .slice none 0 0] 71))) := by rw [hgb]; exact Lib.hid hIB
  rw [← hgb]
  have HB0 := Lib.hid B0
  clear RB B0 hIB hgb
  go_loopw [8] (fun iv wr => ∃ k : Nat, k ≤ l.length ∧ iv = .int .i64 (k : Int) ∧ Lib.IsBuilder 71 5 w.heap.size gb (Lib.byteCells (Sc.print Dy.text ((l.take k).map (·.1)))) wr ∧ Below w.heap.size w wr) (fun iv _ => l.length - (intOf iv).toNat)
  case atStart => exact ⟨0, by omega, rfl, HIB.out, HB0.out⟩
  case round =>
    obtain ⟨k, hk, rfl, hib, BB⟩ := hrel
    have HI2 := Lib.hid hib
    have HB2 := Lib.hid BB
    have hln := HLN.out
    clear hib BB
    by_cases hlt : k < l.length
    · have i0 : (0 : Int) ≤ (k : Int) := by omega
      have i1 : (k : Int) < (l.length : Int) := by omega
      obtain ⟨b, off, rfl, hcc⟩ : ∃ b off, p = some ⟨b, off, none⟩ ∧ ∀ i, i < l.length → w.rangeAt b (off + i * 8) (opE (l.getD i opE0)) := by
        rcases HE.out with h | h
        · rw [h] at hlt; simp at hlt
        · exact h
      have ck := range_below (hcc k hlt) HB2.out
      have hq := HO.out _ (getD_mem (d := opE0) hlt)
      have htk : (l.take (k + 1)).map (·.1) = (l.take k).map (·.1) ++ [(l.getD k opE0).1] := by
        rw [List.take_succ_eq_append_getElem hlt, List.map_append, List.getD_eq_getElem?_getD, List.getElem?_eq_getElem hlt]
        rfl
      have hpl := print_len ((l.take k).map (·.1)) (fun o ho => by
        obtain ⟨e, he, rfl⟩ := List.mem_map.1 ho
        exact (HO.out e (List.mem_of_mem_take he)).1)
      rw [List.length_map, List.length_take] at hpl
      obtain ⟨q, hqq⟩ : ∃ q, q = l.getD k opE0 := ⟨_, rfl⟩
      rw [← hqq] at ck hq htk
      obtain ⟨o, vp, vs⟩ := q
      have hx := otext_len o hq.1
      have HQ := Lib.hid hq
      have HTK := Lib.hid htk
      have HPL := Lib.hid hpl
      have HX := Lib.hid hx
      have e9 : IntKind.i64.wrap ((k : Int) + 1) = (k : Int) + 1 := by rw [IntKind.wrap_i64]; omega
      have c0 : wr.cell? ⟨b, off + k * 8, none⟩ = some (.int .i64 (o.kind : Int)) := ck 0 _ rfl
      have c1 : wr.cell? ⟨b, off + k * 8 + 1, none⟩ = some (.int .u32 (o.fr : Int)) := ck 1 _ rfl
      have c2 : wr.cell? ⟨b, off + k * 8 + 2, none⟩ = some (.int .u32 (o.too : Int)) := ck 2 _ rfl
      have c3 : wr.cell? ⟨b, off + k * 8 + 3, none⟩ = some (.string ⟨o.name.toArray⟩) := ck 3 _ rfl
      have c4 : wr.cell? ⟨b, off + k * 8 + 4, none⟩ = some vp := ck 4 _ rfl
      have c5 : wr.cell? ⟨b, off + k * 8 + 5, none⟩ = some vs := ck 5 _ rfl
      have c6 : wr.cell? ⟨b, off + k * 8 + 6, none⟩ = some (.int .i32 o.fin) := ck 6 _ rfl
      have c7 : wr.cell? ⟨b, off + k * 8 + 7, none⟩ = some (.int .i64 (o.pos : Int)) := ck 7 _ rfl
      have HLT := Lib.hid hlt
      clear hk hlt hcc ck hq htk hpl hqq hx hln
      obtain ⟨pp, np, cp, rfl⟩ : ∃ p n c, vp = .slice p n c := by obtain ⟨p, c, e, _⟩ := HQ.out.2.1; exact ⟨_, _, _, e⟩
      obtain ⟨ps, ns, cs, rfl⟩ : ∃ p n c, vs = .slice p n c := by obtain ⟨p, c, e, _⟩ := HQ.out.2.2; exact ⟨_, _, _, e⟩
      go_wp2_with fail
      have BA := below_alloc (Below.refl _ wr) (.cells (opc o (.slice pp np cp) (.slice ps ns cs)).toArray 53)
      have BAW := below_then HB2.out BA
      have hqa := okE_below HQ.out BAW
      refine (otext_any o _ _ HQ.out.1 (wr.alloc (.cells (opc o (.slice pp np cp) (.slice ps ns cs)).toArray 53)) hqa.2.1 hqa.2.2 (HM.out.below BAW)).mono ?_
      rintro _ w2 ⟨rfl, hb2⟩
      have BW2 := Lib.hid (below_then BAW hb2)
      have HI3 := Lib.hid (builder_below (builder_below HI2.out BA) hb2)
      clear BA BAW hqa hb2 c0 c1 c2 c3 c4 c5 c6 c7
      have hx1 : (⟨(Sc.text Dy.text o).toArray⟩ : ByteArray).size + 1 ≤ 9223372036854775807 := by
        have := HX.out
        simp [ByteArray.size]
        omega
      have hx2 : (Sc.text Dy.text o).length + 1 ≤ 9223372036854775807 := by have := HX.out; omega
      go_wp2_with fail
      have e10 : (⟨(Sc.text Dy.text o).toArray⟩ : ByteArray) ++ ⟨#[10]⟩ = ⟨(Sc.text Dy.text o ++ [10]).toArray⟩ := by
        apply ByteArray.ext
        simp
      rw [e10]
      refine (bwrite_any w.heap.size gb _ (Sc.text Dy.text o ++ [10]) w2 HI3.out (by have := HPL.out; have := HX.out; have := HLN.out; rw [List.length_append, List.length_singleton]; omega) BW2.out.size).mono ?_
      rintro _ w3 ⟨⟨v, rfl⟩, hib3, hb3⟩
      have HI4 := Lib.hid hib3
      have HB4 := Lib.hid (BW2.out.trans hb3)
      clear hib3 hb3 hx1 hx2 e10
      go_wp2_with fail
      refine ⟨⟨k + 1, by have := HLT.out; omega, by simp, ?_, HB4.out⟩, by have := HLT.out; simp [intOf]; omega⟩
      rw [HTK.out, print_snoc]
      exact HI4.out
    · have i1 : ¬ (k : Int) < (l.length : Int) := by omega
      obtain rfl : k = l.length := by omega
      have hib := HI2.out
      rw [List.take_length] at hib
      have HI3 := Lib.hid hib
      clear hib hk hlt hln
      go_wp2_with fail
      refine (bstring_any w.heap.size gb _ wr HI3.out HB2.out.size).mono ?_
      rintro _ w5 ⟨rfl, hb5⟩
      go_wp2_with fail
      go_ret
      exact ⟨rfl, HB2.out.trans hb5⟩
end Go.Proofs.YtbnhodpbamijkaaGreatDoor

namespace Go.Proofs.YtbnhodpbamijkaaGreatDoor
open Go.RowKit
set_option linter.unusedVariables false
set_option linter.unusedSimpArgs false
namespace Sc
def names6 : List (List UInt8) := [[67, 97, 115, 104], [97], [66, 97, 110, 107, 32, 49], [76, 111, 115, 115, 46, 120], [49, 50, 51, 52, 53, 54, 55, 56, 57, 48, 49, 50, 51, 52, 53, 54, 55, 56, 57, 48, 49, 50, 51, 52, 53, 54, 55, 56, 57, 48]]
def name6 (n : Nat) : List UInt8 := names6.getD (n % 5) []
end Sc
set_option maxHeartbeats 4000000 in
set_option maxRecDepth 100000 in
theorem name6_any (n : Nat) (hn : n ≤ 255) (w : World) :
    Calls Tryz.prog 37 #[.int .u8 (n : Int)] w fun e w' => e = .returned (.string ⟨(Sc.name6 n).toArray⟩) ∧ Below w.heap.size w w' := by
  have R0 := Row.new w (sv Sc.names6).toArray 9
  have B0 := Lib.hid (below_alloc (Below.refl _ w) (.cells (sv Sc.names6).toArray 9))
  have m0 : ((n : Int)).tmod 5 = ((n % 5 : Nat) : Int) := by
    rw [Int.tmod_eq_emod_of_nonneg (by omega)]; rfl
  unfold Sc.name6
  have hm : n % 5 < 5 := by omega
  generalize n % 5 = m at *
  have hm2 : m = 0 ∨ m = 1 ∨ m = 2 ∨ m = 3 ∨ m = 4 := by omega
  rcases hm2 with rfl | rfl | rfl | rfl | rfl
  · go_enter Tryz.func37, Tryz.ntmps37
    go_wp2
    exact bodyPost_ret (v := .string ⟨(Sc.names6.getD 0 []).toArray⟩) (by simp [results, Tryz.results37, go_sem]; rfl) rfl ⟨rfl, B0.out⟩
  · go_enter Tryz.func37, Tryz.ntmps37
    go_wp2
    exact bodyPost_ret (v := .string ⟨(Sc.names6.getD 1 []).toArray⟩) (by simp [results, Tryz.results37, go_sem]; rfl) rfl ⟨rfl, B0.out⟩
  · go_enter Tryz.func37, Tryz.ntmps37
    go_wp2
    exact bodyPost_ret (v := .string ⟨(Sc.names6.getD 2 []).toArray⟩) (by simp [results, Tryz.results37, go_sem]; rfl) rfl ⟨rfl, B0.out⟩
  · go_enter Tryz.func37, Tryz.ntmps37
    go_wp2
    exact bodyPost_ret (v := .string ⟨(Sc.names6.getD 3 []).toArray⟩) (by simp [results, Tryz.results37, go_sem]; rfl) rfl ⟨rfl, B0.out⟩
  · go_enter Tryz.func37, Tryz.ntmps37
    go_wp2
    exact bodyPost_ret (v := .string ⟨(Sc.names6.getD 4 []).toArray⟩) (by simp [results, Tryz.results37, go_sem]; rfl) rfl ⟨rfl, B0.out⟩
end Go.Proofs.YtbnhodpbamijkaaGreatDoor
