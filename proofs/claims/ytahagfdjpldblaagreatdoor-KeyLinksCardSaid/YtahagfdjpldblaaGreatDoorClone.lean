/-
  slices.Clone and append over slices of 64-bit numbers.
-/
import Derived.Test.YtahagfdjpldblaaGreatDoorSlice
import Derived.Test.YtahagfdjpldblaaGreatDoorShelf
import Derived.Maps.AppendAt
namespace Go.Proofs.YtahagfdjpldblaaGreatDoor
open Go.RowKit
set_option linter.unusedVariables false
set_option linter.unusedSimpArgs false

def iv (zs : List Int) : List Value := zs.map (Value.int .i64)
theorem iv_one (zs : List Int) : ∀ u ∈ iv zs, u.oneCell' = true := by
  intro u hu
  obtain ⟨z, _, rfl⟩ := List.mem_map.1 hu
  rfl
theorem iv_cell {w : World} {b off : Nat} {zs : List Int} (h : Nums w b off zs) : ∀ j u, (iv zs)[j]? = some u → w.cell? ⟨b, off + j, none⟩ = some u := by
  intro j u hj
  unfold iv at hj
  rw [List.getElem?_map] at hj
  obtain ⟨z, hz, rfl⟩ := Option.map_eq_some_iff.1 hj
  have hlt : j < zs.length := (List.getElem?_eq_some_iff.1 hz).1
  have := h j hlt
  rwa [List.getD_eq_getElem?_getD, hz] at this
theorem own_mono {w : World} {B B' : Nat} {e : TypeId} {size n : Nat} {v : Value} {xs : List Value} (h : w.ownsRow B e size v n xs) (hb : B' ≤ B) : w.ownsRow B' e size v n xs := by
  obtain ⟨h1, h2⟩ := h
  refine ⟨h1, ?_⟩
  rcases h2 with h2 | ⟨g, cap, cur, e1, e2, e3⟩
  · exact .inl h2
  · exact .inr ⟨g, cap, cur, e1, Nat.le_trans hb e2, e3⟩
/-- a slice of its own of these numbers is a slice of these numbers -/
theorem nums_of_own {w : World} {B : Nat} {e : TypeId} {v : Value} {n : Nat} {zs : List Int} (h : w.ownsRow B e 1 v n (iv zs)) (hz : ∀ z ∈ zs, Wd.I64 z) : ∃ a cap, v = .slice a n cap ∧ IsNums w a n zs := by
  obtain ⟨h1, h2⟩ := h
  have hl : zs.length = n := by simpa [iv] using h1
  rcases h2 with ⟨rfl, rfl⟩ | ⟨g, cap, cur, rfl, _, hh, _, _, hs, ht⟩
  · exact ⟨none, 0, rfl, hl, hz, .inl rfl⟩
  · refine ⟨_, cap, rfl, hl, hz, .inr ⟨g, 0, rfl, fun i hi => ?_⟩⟩
    rw [cell_of_row w g (0 + i) cur e _ hh, Nat.zero_add]
    have e1 : (iv zs)[i]? = some (.int .i64 (zs.getD i 0)) := by
      unfold iv
      rw [List.getElem?_map, List.getElem?_eq_getElem hi]
      simp [List.getD_eq_getElem?_getD, hi]
    rw [← ht, Nat.mul_one, List.getElem?_take, if_pos (by omega)] at e1
    simpa using e1
theorem info_i64 : ∃ i, Tryz.prog.info? 2 = some i ∧ i.zero = some (.int .i64 0) ∧ i.size = 1 ∧ i.bytes = 8 := by
  have h : (Tryz.prog.info? 2).map (fun i => (i.zero, i.size, i.bytes)) = some (some (.int .i64 0), 1, 8) := by kernel_rfl
  obtain ⟨i, hi, h⟩ := Option.map_eq_some_iff.1 h
  simp only [Prod.mk.injEq] at h
  exact ⟨i, hi, h.1, h.2.1, h.2.2⟩
section
variable {w W : World}
theorem step_append {ops : Array Oper} {o : Oper} {a : Act} {K : Act → World → Prop} {Q : Exit → Act → World → Prop} {E : Prop} (hgd : o.guard = none) (s x : Operand)
    (ho : o.op = .call { callee := .builtin .append, args := #[s, x], argTypes := #[80, 80] })
    (hB : Below w.heap.size w W) (v : Value) (n : Nat) (xs : List Int) (hs : a.eval s = v) (hown : W.ownsRow w.heap.size 2 1 v n (iv xs))
    (b off m c : Nat) (zs : List Int) (hx : a.eval x = .slice (some ⟨b, off, none⟩) m c) (hl : zs.length = m) (hz : Nums W b off zs) (hn : n + m ≤ 1000)
    (h : ∀ v' w', w'.ownsRow w.heap.size 2 1 v' (n + m) (iv (xs ++ zs)) → Below w.heap.size w w' → K (a.put o.dst v') w') :
    if Region.wanted o (yielded ops a.tmps) = true then Oper.wp Tryz.prog o a W K Q else E := by
  have hw : Region.wanted o (yielded ops a.tmps) = true := by simp [Region.wanted, hgd]
  rw [if_pos hw]
  obtain ⟨i, hi, h1, h2, h3⟩ : ∃ i, Tryz.prog.info? 2 = some i ∧ i.zero = some (.int .i64 0) ∧ i.size = 1 ∧ i.bytes = 8 := info_i64
  have hadd : ∀ j, (⟨b, off, none⟩ : Addr).add j = ⟨b, off + j, none⟩ := fun j => by simp [Addr.add]
  obtain ⟨v', w', hr, k2, k3, k4, k5⟩ := run_append_own_at (P := Tryz.prog) W w.heap.size 80 o.type 2 i (.int .i64 0) 1 8 Tryz.underlying80 hi h1 h2 h3 rfl (by omega) v n (iv xs) hown ⟨b, off, none⟩ m c (iv zs) (by simp [iv, hl]) (fun j u hj => by rw [hadd]; exact iv_cell hz j u hj) (iv_one zs) (by unfold maxLen; omega) (by omega) hB.size
  unfold Oper.wp execOp
  simp only [ho, resolve, invoke, builtin, Sem.run_bind, Sem.run_pure, Result.andThen_ok, List.map_toArray, List.map_cons, List.map_nil, hs, hx, hr]
  refine h v' w' (by unfold iv at k2 ⊢; rwa [List.map_append]) (hB.grown k3 hB.size ?_)
  intro k hk
  rcases hown.2 with ⟨rfl, _⟩ | ⟨g, cap, cur, rfl, hg, _⟩
  · simp [Value.ownBlock] at hk
  · simp [Value.ownBlock] at hk
    omega
theorem list_append {ops : Array Oper} {rest : List Oper} {o : Oper} {a : Act} {Q : Exit → Act → World → Prop} (hgd : o.guard = none) (s x : Operand)
    (ho : o.op = .call { callee := .builtin .append, args := #[s, x], argTypes := #[80, 80] })
    (hB : Below w.heap.size w W) (v : Value) (n : Nat) (xs : List Int) (hs : a.eval s = v) (hown : W.ownsRow w.heap.size 2 1 v n (iv xs))
    (b off m c : Nat) (zs : List Int) (hx : a.eval x = .slice (some ⟨b, off, none⟩) m c) (hl : zs.length = m) (hz : Nums W b off zs) (hn : n + m ≤ 1000)
    (h : ∀ v' w', w'.ownsRow w.heap.size 2 1 v' (n + m) (iv (xs ++ zs)) → Below w.heap.size w w' → wpList Tryz.prog ops Q rest (a.put o.dst v') w') :
    wpList Tryz.prog ops Q (o :: rest) a W := by
  obtain ⟨i, hi, h1, h2, h3⟩ : ∃ i, Tryz.prog.info? 2 = some i ∧ i.zero = some (.int .i64 0) ∧ i.size = 1 ∧ i.bytes = 8 := info_i64
  have hadd : ∀ j, (⟨b, off, none⟩ : Addr).add j = ⟨b, off + j, none⟩ := fun j => by simp [Addr.add]
  refine wpList_append_own_at W hgd s x 80 ho w.heap.size 2 i (.int .i64 0) 1 8 Tryz.underlying80 hi h1 h2 h3 rfl (by omega) v n (iv xs) hs hown ⟨b, off, none⟩ m c (iv zs) hx (by simp [iv, hl]) (fun j u hj => by rw [hadd]; exact iv_cell hz j u hj) (iv_one zs) (by unfold maxLen; omega) (by omega) hB.size ?_
  intro v' w' k2 k3 k4 k5
  refine h v' w' (by unfold iv at k2 ⊢; rwa [List.map_append]) (hB.grown k3 hB.size ?_)
  intro k hk
  rcases hown.2 with ⟨rfl, _⟩ | ⟨g, cap, cur, rfl, hg, _⟩
  · simp [Value.ownBlock] at hk
  · simp [Value.ownBlock] at hk
    omega
end
theorem own_alloc {w : World} {B : Nat} {e : TypeId} {size n : Nat} {v : Value} {xs : List Value} (h : w.ownsRow B e size v n xs) (o : Obj) : (w.alloc o).ownsRow B e size v n xs := by
  obtain ⟨h1, h2⟩ := h
  refine ⟨h1, ?_⟩
  rcases h2 with h2 | ⟨g, cap, cur, e1, e2, e3, e4⟩
  · exact .inl h2
  · have hlt : g < w.heap.size := by
      by_cases c : g < w.heap.size
      · exact c
      · rw [Array.getElem?_eq_none (by omega)] at e3; cases e3
    refine .inr ⟨g, cap, cur, e1, e2, ?_, e4⟩
    show (w.heap.push o)[g]? = _
    rw [Array.getElem?_push, if_neg (by omega)]
    exact e3
end Go.Proofs.YtahagfdjpldblaaGreatDoor
