/-
  What share.signed comes to, as the machine runs it.
-/
import Derived.Test.YtahagfdjpldblaaGreatDoorClone
namespace Go.Proofs.YtahagfdjpldblaaGreatDoor
open Go.RowKit
set_option linter.unusedVariables false
set_option linter.unusedSimpArgs false

/-- the sizes of a slice lie in memory -/
def NumsU (w : World) (b off : Nat) (zs : List Nat) : Prop := ∀ i, i < zs.length → w.cell? ⟨b, off + i, none⟩ = some (.int .u64 ((zs.getD i 0 : Nat) : Int))
theorem NumsU.below {w w' : World} {b off : Nat} {zs : List Nat} (h : NumsU w b off zs) (hb : Below w.heap.size w w') : NumsU w' b off zs := fun i hi => cell_then (h i hi) hb
theorem map_take_succ {α β : Type} (f : α → β) (zs : List α) (k : Nat) (d : α) (h : k < zs.length) : (zs.take (k + 1)).map f = (zs.take k).map f ++ [f (zs.getD k d)] := by
  rw [List.take_succ_eq_append_getElem h, List.map_append]; simp [List.getD_eq_getElem?_getD, h]
theorem nums_one {w : World} {b : Nat} {z : Int} (h : w.cell? ⟨b, 0, none⟩ = some (.int .i64 z)) : Nums w b 0 [z] := by
  intro i hi
  have : i = 0 := by simp at hi; omega
  subst this
  simpa using h
def sgn (m : Bool) (n : Nat) : Int := if m then -(n : Int) else (n : Int)

set_option maxHeartbeats 2000000 in
theorem signed_any (m : Bool) (b n cap : Nat) (os : List Nat) (w : World) (hn : NumsU w b 0 os) (hl : os.length = n) (hn8 : n ≤ 8) (ho : ∀ i, os.getD i 0 ≤ 9223372036854775807 ∨ (m = true ∧ os.getD i 0 ≤ 9223372036854775808)) :
    Calls Tryz.prog 55 #[.slice (some ⟨b, 0, none⟩) n cap, .bool m] w fun e w' => ∃ v, e = .returned v ∧ w'.ownsRow w.heap.size 2 1 v n (iv (os.map (sgn m))) ∧ Below w.heap.size w w' := by
  have HN := Lib.hid hn
  have HO := Lib.hid ho
  clear hn ho
  cases m
  all_goals
    go_enter Tryz.func55, Tryz.ntmps55
    go_wp2_with fail
  · go_loopw [5, 10] (fun v i wr => ∃ k : Nat, k ≤ n ∧ i = .int .i64 k ∧ wr.ownsRow w.heap.size 2 1 v k (iv ((os.take k).map (sgn false))) ∧ Below w.heap.size w wr) (fun _ i _ => n - (intOf i).toNat)
    case atStart => exact ⟨0, by omega, rfl, ⟨rfl, .inl ⟨rfl, rfl⟩⟩, Below.refl _ _⟩
    case round =>
      obtain ⟨k, hk, rfl, hown, BB⟩ := hrel
      by_cases hlt : k < n
      · have hkz : k < os.length := by omega
        have hc : wr.cell? ⟨b, k, none⟩ = some (.int .u64 ((os.getD k 0 : Nat) : Int)) := by
          have h1 := HN.out k hkz
          rw [Nat.zero_add] at h1
          exact (BB.cell (block_lt_of_cell h1)).trans h1
        have hz : os.getD k 0 ≤ 9223372036854775807 := by
          rcases HO.out k with h | ⟨h, h'⟩ <;> first | omega | cases h
        have HM := Lib.hid (map_take_succ (sgn false) os k 0 hkz)
        generalize os.getD k 0 = z at *
        have e1 : IntKind.i64.wrap (z : Int) = sgn false z := by unfold sgn; rw [IntKind.wrap_i64]; simp; omega
        go_wp2_with (at_builtin; refine list_append rfl _ _ rfl (below_alloc BB _) _ k _ rfl (own_alloc hown _) wr.heap.size 0 1 1 [sgn false z] rfl rfl (nums_one ((Row.new wr _ _).cell 0)) (by omega) ?_; intro v2 w2 hown2 hB2)
        go_roundw
        case rel => exact ⟨k + 1, by omega, by go_num, by rw [HM.out]; exact hown2, hB2⟩
        case measure => simp [intOf]; omega
      · have hk0 : k = n := by omega
        subst hk0
        rw [List.take_of_length_le (by omega)] at hown
        go_wp2
        go_ret
        exact ⟨_, rfl, hown, BB⟩
  · go_loopw [5, 10] (fun v i wr => ∃ k : Nat, k ≤ n ∧ i = .int .i64 k ∧ wr.ownsRow w.heap.size 2 1 v k (iv ((os.take k).map (sgn true))) ∧ Below w.heap.size w wr) (fun _ i _ => n - (intOf i).toNat)
    case atStart => exact ⟨0, by omega, rfl, ⟨rfl, .inl ⟨rfl, rfl⟩⟩, Below.refl _ _⟩
    case round =>
      obtain ⟨k, hk, rfl, hown, BB⟩ := hrel
      by_cases hlt : k < n
      · have hkz : k < os.length := by omega
        have hc : wr.cell? ⟨b, k, none⟩ = some (.int .u64 ((os.getD k 0 : Nat) : Int)) := by
          have h1 := HN.out k hkz
          rw [Nat.zero_add] at h1
          exact (BB.cell (block_lt_of_cell h1)).trans h1
        have hz : os.getD k 0 ≤ 9223372036854775808 := by
          rcases HO.out k with h | ⟨h, h'⟩ <;> first | omega | cases h
        have HM := Lib.hid (map_take_succ (sgn true) os k 0 hkz)
        generalize os.getD k 0 = z at *
        have e1 : IntKind.i64.wrap (IntKind.u64.wrap (-(z : Int))) = sgn true z := by unfold sgn; rw [IntKind.wrap_i64, IntKind.wrap_u64]; simp; omega
        go_wp2_with (at_builtin; refine list_append rfl _ _ rfl (below_alloc BB _) _ k _ rfl (own_alloc hown _) wr.heap.size 0 1 1 [sgn true z] rfl rfl (nums_one ((Row.new wr _ _).cell 0)) (by omega) ?_; intro v2 w2 hown2 hB2)
        go_roundw
        case rel => exact ⟨k + 1, by omega, by go_num, by rw [HM.out]; exact hown2, hB2⟩
        case measure => simp [intOf]; omega
      · have hk0 : k = n := by omega
        subst hk0
        rw [List.take_of_length_le (by omega)] at hown
        go_wp2
        go_ret
        exact ⟨_, rfl, hown, BB⟩
end Go.Proofs.YtahagfdjpldblaaGreatDoor
