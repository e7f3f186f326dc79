/-
  Own texts, several in one (ContainsK, KeysN, In).
-/
import Derived.Test.YtahagfdjpldblaaGreatDoorMrg13
import Derived.Test.YtahagfdjpldblaaGreatDoorMrg14
import Derived.Deep.SlicePairs
import Derived.Deep.MidRow
import Derived.OpenShut
import Derived.Lib.SmallJoins
namespace Go.Proofs.YtahagfdjpldblaaGreatDoor
open Go.RowKit Ky
set_option linter.unusedVariables false
set_option linter.unusedSimpArgs false

theorem KeysAt.below {w w' : World} {v : Value} {l : List K} (h : KeysAt w v l) (hb : Below w.heap.size w w') : KeysAt w' v l := by
  obtain ⟨p, cap, e, h⟩ := h
  refine ⟨p, cap, e, ?_⟩
  rcases h with h | ⟨g, e2, h⟩
  · exact .inl h
  · exact .inr ⟨g, e2, fun t u hu => cell_then (h t u hu) hb⟩
theorem keys_cell {w : World} {g : Nat} {l : List K} (h : ∀ t u, (kcs l)[t]? = some u → w.cell? ⟨g, t, none⟩ = some u) (i : Nat) (hi : i < l.length) (q : Nat) (hq : q < 3) : w.cell? ⟨g, i * 3 + q, none⟩ = (kc (l.getD i kk0.1))[q]? := by
  have h1 := kcs_get l (i * 3 + q) (by omega)
  rw [show (i * 3 + q) / 3 = i by omega, show (i * 3 + q) % 3 = q by omega] at h1
  rw [← h1]
  obtain ⟨u, hu⟩ : ∃ u, (kcs l)[i * 3 + q]? = some u := by
    refine ⟨_, List.getElem?_eq_getElem ?_⟩
    rw [kcs_len]
    omega
  rw [hu]
  exact h _ _ hu
set_option maxHeartbeats 1000000 in
set_option maxRecDepth 100000 in
theorem indexK_any (v : Value) (l : List K) (c : K) (w : World) (hP : KeysAt w v l) (hl : l.length ≤ 1000) :
    Calls Tryz.prog 28 #[v, .agg (kc c).toArray] w fun e w' => ∃ z : Int, e = .returned (.int .i64 z) ∧ (0 ≤ z ↔ c ∈ l) ∧ Below w.heap.size w w' := by
  obtain ⟨p, cap, rfl, hP⟩ := hP
  rcases hP with rfl | ⟨g, rfl, hP⟩
  · have hB := Lib.hid (below_alloc (Below.refl _ w) (.cells (kc c).toArray 29))
    go_enter Tryz.func28, Tryz.ntmps28
    go_wp2_with fail
    refine wp_loop_rounds 1 ?_
    rw [rounds_succ]
    go_wp2
    go_ret
    exact ⟨-1, rfl, by simp, hB.out⟩
  · have HB := Lib.hid (below_alloc (Below.refl _ w) (.cells (kc c).toArray 29))
    have HR := Lib.hid (Row.new w (kc c).toArray 29)
    have HP := Lib.hid hP
    clear hP
    go_enter Tryz.func28, Tryz.ntmps28
    go_wp2_with fail
    generalize w.alloc (.cells (kc c).toArray 29) = w1 at *
    obtain ⟨gc, hgc⟩ : ∃ gc, gc = w.heap.size := ⟨_, rfl⟩
    rw [← hgc] at HR ⊢
    clear hgc
    go_loopw [8] (fun i wr => ∃ k : Nat, k ≤ l.length ∧ i = .int .i64 k ∧ (∀ j, j < k → l.getD j kk0.1 ≠ c) ∧ Below w1.heap.size w1 wr) (fun i _ => l.length - (intOf i).toNat)
    case atStart => exact ⟨0, by omega, rfl, fun j hj => by omega, Below.refl _ _⟩
    case round =>
      obtain ⟨k, hk, rfl, hno, BB⟩ := hrel
      by_cases hlt : k < l.length
      · have hk1 : (0 : Int) ≤ (k : Int) := by omega
        have hk2 : (k : Int) < (l.length : Int) := by omega
        have R := HR.out.below BB
        have B2 := below_then HB.out BB
        have cw := fun q hq => ((B2.cell (block_lt_of_cell ((keys_cell HP.out k hlt q hq).trans (List.getElem?_eq_getElem (by rw [kc_len]; exact hq))))).trans (keys_cell HP.out k hlt q hq))
        generalize hx : l.getD k kk0.1 = x at *
        have HX := Lib.hid hx
        have HNO := Lib.hid hno
        have RG : wr.rangeAt g (k * 3) (kc x) := fun j v hv => by
          have hj : j < 3 := by
            by_cases c : j < 3
            · exact c
            · rw [List.getElem?_eq_none (by rw [kc_len]; omega)] at hv; cases hv
          exact (cw j hj).trans hv
        have RC : wr.rangeAt gc 0 (kc c) := fun j v hv => by
          rw [Nat.zero_add, R.cell j]
          simpa using hv
        clear cw R hx hno
        go_wp2_with fail
        refine region_vals (n := 6) (by kernel_rfl) (fun w' => Below wr.heap.size wr w') (fun i => (#[Value.agg (kc c).toArray, .slice (some ⟨g, 0, none⟩) l.length cap, .int .i64 (k : Int), .pointer (some ⟨g, k * 3, none⟩), .agg (kc x).toArray, .bool (decide (c = x))] : Array Value).getD i undef)
          ⟨#[Value.slice (some { block := g, off := 0 }) l.length cap, Value.agg (kc c).toArray, undef, Value.pointer (some { block := gc, off := 0 }), u4, Value.int IntKind.i64 ↑k, Value.slice (some { block := g, off := 0 }) l.length cap, Value.int IntKind.i64 ↑l.length, Value.int IntKind.i64 ↑k, Value.bool true, Value.int IntKind.i64 ↑k, Value.agg (kc c).toArray, .slice (some ⟨g, 0, none⟩) l.length cap, .int .i64 (k : Int), .pointer (some ⟨g, k * 3, none⟩), .agg (kc x).toArray, .bool (decide (c = x)), u17, u18], []⟩ (by kernel_rfl) (by kernel_rfl) (below_dr (Below.refl _ _)) rfl rfl ?_ ?_
        · intro i o ho wx S
          rcases i with _ | _ | _ | _ | _ | _ | i
          all_goals (first | (simp at ho; done) | (obtain rfl := Option.some.inj ho))
          · exact yv_load rfl S _ _ rfl gc 0 rfl (fun j v hv => cell_then (RC j v hv) S) Tryz.underlying29 rfl (by kernel_rfl)
          · exact yv_val rfl S (by go_simp)
          · exact yv_val rfl S (by go_simp)
          · exact yv_val rfl S (by go_simp)
          · exact yv_load rfl S _ _ rfl g (k * 3) rfl (fun j v hv => cell_then (RG j v hv) S) Tryz.underlying29 rfl (by kernel_rfl)
          · exact yv_val rfl S (eql_key c x rfl rfl rfl rfl wx)
        · intro wy S
          by_cases hcx : c = x
          · rw [decide_eq_true hcx]
            go_wp2
            go_ret
            exact ⟨k, rfl, ⟨fun _ => by rw [hcx, ← HX.out]; exact getD_mem hlt, fun _ => by omega⟩, below_then B2 S⟩
          · rw [decide_eq_false hcx]
            have ev : IntKind.i64.wrap ((k : Int) + 1) = ((k + 1 : Nat) : Int) := by rw [IntKind.wrap_i64]; omega
            go_wp2
            refine ⟨⟨k + 1, by omega, by push_cast; rfl, fun j hj => ?_, below_then BB S⟩, by simp [intOf]; omega⟩
            by_cases e : j = k
            · rw [e, HX.out]
              exact fun e2 => hcx e2.symm
            · exact HNO.out j (by omega)
      · obtain rfl : k = l.length := by omega
        have hk0 : ¬ ((l.length : Int) < (l.length : Int)) := by omega
        have HNO := Lib.hid hno
        clear hno
        go_wp2_with fail
        go_ret
        refine ⟨-1, rfl, ⟨fun h => by omega, fun h => ?_⟩, below_then HB.out BB⟩
        obtain ⟨j, hj, e⟩ := List.getElem_of_mem h
        refine absurd ?_ (HNO.out j hj)
        rw [List.getD_eq_getElem?_getD, List.getElem?_eq_getElem hj]
        exact e
theorem containsK_any (v : Value) (l : List K) (c : K) (w : World) (hP : KeysAt w v l) (hl : l.length ≤ 1000) :
    Calls Tryz.prog 14 #[v, .agg (kc c).toArray] w fun e w' => e = .returned (.bool (decide (c ∈ l))) ∧ Below w.heap.size w w' := by
  have e : (kc c).toArray = #[.int .u32 (c.a : Int), .int .u16 (c.e : Int), .int .u16 (c.p : Int)] := rfl
  have HB := Lib.hid (below_alloc (Below.refl _ w) (.cells #[.int .u32 (c.a : Int), .int .u16 (c.e : Int), .int .u16 (c.p : Int)] 29))
  have HI := fun W (hb : Below w.heap.size w W) => indexK_any v l c W (hP.below hb) hl
  rw [e] at HI ⊢
  have HI := Lib.hid HI
  clear hP e
  go_enter Tryz.func14, Tryz.ntmps14
  go_wp2_with fail
  refine (HI.out _ HB.out).mono ?_
  rintro _ w1 ⟨z, rfl, hz, hb⟩
  have HBB := Lib.hid (below_then HB.out hb)
  have HZ := Lib.hid hz
  clear hz hb HI
  go_wp2_with fail
  go_ret
  refine ⟨?_, HBB.out⟩
  show Ending.returned (.bool (decide (0 ≤ z))) = .returned (.bool (decide (c ∈ l)))
  rw [decide_eq_decide.2 HZ.out]
end Go.Proofs.YtahagfdjpldblaaGreatDoor

namespace Go.Proofs.YtahagfdjpldblaaGreatDoor
open Go.RowKit Ky
set_option linter.unusedVariables false
set_option linter.unusedSimpArgs false

theorem sortedK_none (w : World) : Calls Tryz.prog 26 #[.map none, .func (.func 27) #[] #[]] w fun e w' => e = .returned (.slice none 0 0) ∧ Below w.heap.size w w' := by
  have HN := Lib.hid fun W => AnyF.slices_SortFunc_none { Tryz.laysSlF06_f35 with } none 0 (.func (.func 27) #[] #[]) W
  have hrg := run_range_nilMap (P := Tryz.prog) w 24 29 44 Tryz.underlying24
  have hnx := run_next_nilMap (P := Tryz.prog) w 0 0 0 #[]
  go_enter Tryz.func26, Tryz.ntmps26
  go_wp2_with fail
  refine wp_loop_rounds 1 ?_
  rw [rounds_succ]
  go_wp2_with fail
  refine (HN.out _).mono ?_
  rintro _ w1 ⟨rfl, rfl⟩
  go_wp2
  go_ret
  exact ⟨rfl, below_alloc (Below.refl _ w) _⟩
theorem keys_none (w : World) : Calls Tryz.prog 9 #[.map none] w fun e w' => e = .returned (.slice none 0 0) ∧ Below w.heap.size w w' := by
  go_enter Tryz.func9, Tryz.ntmps9
  go_wp2_with fail
  refine (sortedK_none _).mono ?_
  rintro _ w1 ⟨rfl, hb⟩
  go_wp2
  go_ret
  exact ⟨rfl, hb⟩
end Go.Proofs.YtahagfdjpldblaaGreatDoor

namespace Go.Proofs.YtahagfdjpldblaaGreatDoor
open Go.RowKit Ky Go.ChangeShapes Go.WideShapes
set_option linter.unusedVariables false
set_option linter.unusedSimpArgs false

/-- these lie one behind the other from this address on -/
def ElsAt {E : Type} (f : E → List Value) (sz : Nat) (d : E) (w : World) (a : Option Addr) (l : List E) : Prop :=
  l = [] ∨ ∃ b off, a = some ⟨b, off, none⟩ ∧ ∀ i, i < l.length → w.rangeAt b (off + i * sz) (f (l.getD i d))
theorem ElsAt.below {E : Type} {f : E → List Value} {sz : Nat} {d : E} {w w' : World} {a : Option Addr} {l : List E} (h : ElsAt f sz d w a l) (hb : Below w.heap.size w w') : ElsAt f sz d w' a l := by
  rcases h with h | ⟨b, off, e, h⟩
  · exact .inl h
  · exact .inr ⟨b, off, e, fun i hi j v hv => cell_then (h i hi j v hv) hb⟩
theorem range_below {w w' : World} {b o : Nat} {cs : List Value} (h : w.rangeAt b o cs) (hb : Below w.heap.size w w') : w'.rangeAt b o cs := fun j v hv => cell_then (h j v hv) hb

theorem list2 {α : Type} {l : List α} (h : l.length = 2) : ∃ a b, l = [a, b] := by
  match l, h with
  | [a, b], _ => exact ⟨a, b, rfl⟩
theorem list3 {α : Type} {l : List α} (h : l.length = 3) : ∃ a b c, l = [a, b, c] := by
  match l, h with
  | [a, b, c], _ => exact ⟨a, b, c, rfl⟩
theorem list4 {α : Type} {l : List α} (h : l.length = 4) : ∃ a b c d, l = [a, b, c, d] := by
  match l, h with
  | [a, b, c, d], _ => exact ⟨a, b, c, d, rfl⟩
theorem list6 {α : Type} {l : List α} (h : l.length = 6) : ∃ a b c d e f, l = [a, b, c, d, e, f] := by
  match l, h with
  | [a, b, c, d, e, f], _ => exact ⟨a, b, c, d, e, f, rfl⟩
section
variable {H : Type} {enc : TypeId × Value → H} {P : Program} {W : World} {base : Nat} {sp : Nat → Bool} {held : Bool}
theorem open_els {E : Type} (f : E → List Value) (sz : Nat) (d : E) (ok : E → Prop) {t e : TypeId} (ht : P.underlying t = some (.slice e)) (hsz : P.cellsOf e = sz) (hpos : 0 < sz) (hlen : ∀ x, (f x).length = sz)
    (hrd : ∀ n cs y, DataW.trod enc P W base sp held n e cs = some y → ∃ x, ok x ∧ cs = f x)
    {a : Option Addr} {len cap : Nat} {d0 : DataW H} {ps : List MemPlace} (h : DataW.Trod enc P W base sp held t (.slice a len cap) d0 ps) :
    ∃ l : List E, l.length = len ∧ (∀ x ∈ l, ok x) ∧ ElsAt f sz d W a l ∧ len ≤ cap ∧ cap ≤ maxLen := by
  obtain ⟨fuel, hf⟩ := h
  rcases Deep.open_slice ht hf with ⟨h1, _⟩ | ⟨a', len', cap', m, n, D, Pl, h1, hb, hl, hm, hmm, _, hx⟩
  · simp [Value.cells] at h1
    obtain ⟨rfl, rfl, rfl⟩ := h1
    exact ⟨[], rfl, by simp, .inl rfl, Nat.le_refl _, Nat.zero_le _⟩
  · simp [Value.cells] at h1
    obtain ⟨rfl, rfl, rfl⟩ := h1
    have hlm : len ≤ m := by rw [hmm]; split <;> omega
    obtain ⟨q, hq⟩ := Deep.choose_lt (n := len) (α := Option E) (p := fun i x => ∃ y, x = some y ∧ ok y ∧ ∀ j v, (f y)[j]? = some v → W.cell? ((a'.add (i * sz)).add j) = some v) (fun i hi => by
      obtain ⟨cs', h1, h2⟩ := hx i (by omega)
      obtain ⟨y, hy, rfl⟩ := hrd _ _ _ h2
      rw [hsz] at h1
      obtain ⟨_, hlen2, hcell⟩ := World.cells?_some h1
      refine ⟨some y, y, rfl, hy, fun j v hv => ?_⟩
      have hj : j < sz := by
        by_cases c : j < sz
        · exact c
        · rw [List.getElem?_eq_none (by rw [hlen]; omega)] at hv; cases hv
      rw [hcell j hj, hv])
    have hg : ∀ i, i < len → ((List.range len).map fun i => (q i).getD d).getD i d = (q i).getD d := fun i hi => by
      rw [List.getD_eq_getElem?_getD, List.getElem?_map, List.getElem?_range hi]
      rfl
    refine ⟨(List.range len).map fun i => (q i).getD d, by simp, ?_, ?_, hl, hm⟩
    · intro x hx
      obtain ⟨i, hi, rfl⟩ := List.mem_map.1 hx
      obtain ⟨y, e, hy, _⟩ := hq i (List.mem_range.1 hi)
      rw [e]
      exact hy
    · by_cases h0 : len = 0
      · left
        rw [h0]
        rfl
      · right
        obtain ⟨b, off, spot⟩ := a'
        obtain ⟨y0, e0, _, h00⟩ := hq 0 (by omega)
        obtain ⟨v0, hv0⟩ : ∃ v, (f y0)[0]? = some v := ⟨_, List.getElem?_eq_getElem (by rw [hlen]; exact hpos)⟩
        have h00 := h00 0 v0 hv0
        have hs : spot = none := by
          cases spot with
          | none => rfl
          | some k =>
            simp only [World.cell?, Addr.add, Nat.zero_mul] at h00
            split at h00 <;> simp at h00
        subst hs
        refine ⟨b, off, rfl, fun i hi j v hv => ?_⟩
        have hi : i < len := by simpa using hi
        rw [hg i hi] at hv
        obtain ⟨y, e, _, h3⟩ := hq i hi
        rw [e] at hv
        have h4 := h3 j v hv
        rw [Addr.add_mid, Addr.add_mid] at h4
        exact h4
theorem rd_key (n : Nat) (cs : List Value) (y : DataW H × List MemPlace) (h : DataW.trod enc Tryz.prog W base sp held n 29 cs = some y) : ∃ k : K, k.ok ∧ cs = [.int .u32 (k.a : Int), .int .u16 (k.e : Int), .int .u16 (k.p : Int)] := by
  have c0 : Tryz.prog.cellsOf 29 = 3 := by kernel_rfl
  have c1 : Tryz.prog.cellsOf 26 = 1 := by kernel_rfl
  have c2 : Tryz.prog.cellsOf 27 = 1 := by kernel_rfl
  obtain ⟨xs, m, _, _, hl, hx, hf⟩ := DataW.trod_struct Tryz.underlying29 h
  rw [c0] at hl
  obtain ⟨x0, x1, x2, rfl⟩ := list3 hl
  have g0 := hf 0 _ rfl
  have g1 := hf 1 _ rfl
  have g2 := hf 2 _ rfl
  simp [c1, c2] at g0 g1 g2
  obtain ⟨y0, y1, y2, rfl⟩ := list3 hx
  simp at g0 g1 g2
  obtain ⟨z0, e0, _, b0⟩ := DataW.trod_int Tryz.underlying26 g0
  obtain ⟨z1, e1, _, b1⟩ := DataW.trod_int Tryz.underlying27 g1
  obtain ⟨z2, e2, _, b2⟩ := DataW.trod_int Tryz.underlying27 g2
  simp at e0 e1 e2
  subst e0 e1 e2
  have b0 := Go.bounds_u32 b0
  have b1 := Go.bounds_u16 b1
  have b2 := Go.bounds_u16 b2
  refine ⟨⟨z0.toNat, z1.toNat, z2.toNat⟩, ⟨by dsimp only; omega, by dsimp only; omega, by dsimp only; omega⟩, ?_⟩
  dsimp only
  rw [Int.toNat_of_nonneg b0.1, Int.toNat_of_nonneg b1.1, Int.toNat_of_nonneg b2.1]
theorem rd_pair (n : Nat) (cs : List Value) (y : DataW H × List MemPlace) (h : DataW.trod enc Tryz.prog W base sp held n 49 cs = some y) : ∃ c : K × K, okp c ∧ cs = pc c := by
  have c0 : Tryz.prog.cellsOf 49 = 6 := by kernel_rfl
  have c1 : Tryz.prog.cellsOf 29 = 3 := by kernel_rfl
  obtain ⟨xs, m, _, _, hl, hx, hf⟩ := DataW.trod_array Tryz.underlying49 h
  rw [c0] at hl
  obtain ⟨x0, x1, x2, x3, x4, x5, rfl⟩ := list6 hl
  have g0 := hf 0 (by omega)
  have g1 := hf 1 (by omega)
  simp [c1] at g0 g1
  obtain ⟨y0, y1, rfl⟩ := list2 hx
  simp at g0 g1
  obtain ⟨k, hk, e1⟩ := rd_key _ _ _ g0
  obtain ⟨k', hk', e2⟩ := rd_key _ _ _ g1
  simp at e1 e2
  obtain ⟨rfl, rfl, rfl⟩ := e1
  obtain ⟨rfl, rfl, rfl⟩ := e2
  exact ⟨(k, k'), ⟨hk, hk'⟩, rfl⟩
theorem open_pairs {a : Option Addr} {len cap : Nat} {d0 : DataW H} {ps : List MemPlace} (h : DataW.Trod enc Tryz.prog W base sp held 48 (.slice a len cap) d0 ps) :
    ∃ l : List (K × K), l.length = len ∧ (∀ x ∈ l, okp x) ∧ ElsAt pc 6 pk0.1 W a l ∧ len ≤ cap ∧ cap ≤ maxLen :=
  open_els pc 6 pk0.1 okp Tryz.underlying48 (by kernel_rfl) (by omega) pc_len rd_pair h
theorem okWide_array {t e : TypeId} {n : Nat} {r : Reach} {v : Value} (ht : P.underlying t = some (.array n e)) (h : Value.okWide P W r base t v) : ∃ cs, v = .agg cs := by
  simp only [Value.okWide, ht] at h
  obtain ⟨cs, h1, _⟩ := h
  exact ⟨cs, h1⟩
set_option maxRecDepth 100000 in
theorem open_pair {r : Reach} {b0 : Nat} {v : Value} {d : DataW H} {ps : List MemPlace} (hval : Value.okWide Tryz.prog W r b0 49 v) (h : DataW.Trod enc Tryz.prog W base sp held 49 v d ps) : ∃ c : K × K, okp c ∧ v = .agg (pc c).toArray := by
  obtain ⟨n, hn⟩ := h
  obtain ⟨c, hc, e⟩ := rd_pair _ _ _ hn
  obtain ⟨cs, rfl⟩ := okWide_array Tryz.underlying49 hval
  refine ⟨c, hc, ?_⟩
  have e2 : cs.toList = pc c := e
  rw [← e2]
end
end Go.Proofs.YtahagfdjpldblaaGreatDoor
