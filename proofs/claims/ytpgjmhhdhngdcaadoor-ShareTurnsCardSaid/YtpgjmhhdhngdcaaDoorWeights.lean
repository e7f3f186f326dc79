/-
  A slice of 32-bit numbers that comes in; law 3's Weights.
-/
import Derived.Test.YtpgjmhhdhngdcaaDoorAwake3
namespace Go.Proofs.YtpgjmhhdhngdcaaDoor
open Go.ChangeShapes Go.WideShapes Go.RowKit
set_option linter.unusedVariables false
set_option linter.unusedSimpArgs false

def Nums32 (w : World) (b off : Nat) (us : List Nat) : Prop := ∀ i, i < us.length → w.cell? ⟨b, off + i, none⟩ = some (.int .u32 ((us.getD i 0 : Nat) : Int))
def IsU32 (w : World) (a : Option Addr) (len : Nat) (us : List Nat) : Prop := us.length = len ∧ (∀ i, us.getD i 0 ≤ 4294967295) ∧ (len = 0 ∨ ∃ b off, a = some ⟨b, off, none⟩ ∧ Nums32 w b off us)
theorem Nums32.below {w w' : World} {b off : Nat} {us : List Nat} (h : Nums32 w b off us) (hb : Below w.heap.size w w') : Nums32 w' b off us := fun i hi => cell_then (h i hi) hb
theorem IsU32.below {w w' : World} {a : Option Addr} {len : Nat} {us : List Nat} (h : IsU32 w a len us) (hb : Below w.heap.size w w') : IsU32 w' a len us := by
  obtain ⟨h1, h2, h3⟩ := h
  refine ⟨h1, h2, ?_⟩
  rcases h3 with h3 | ⟨b, off, e, h3⟩
  · exact .inl h3
  · exact .inr ⟨b, off, e, h3.below hb⟩
theorem open_u32 {H : Type} {enc : TypeId × Value → H} {W : World} {base : Nat} {sp : Nat → Bool} {held : Bool} {d : DataW H} {ps : List MemPlace} {a : Option Addr} {len cap : Nat}
    (h : DataW.Trod enc Tryd.prog W base sp held 44 (.slice a len cap) d ps) : ∃ us, IsU32 W a len us ∧ len ≤ cap ∧ cap ≤ maxLen := by
  obtain ⟨fuel, hf⟩ := h
  rcases open_ints Tryd.underlying44 Tryd.underlying53 (by kernel_rfl) hf with ⟨hcs, _⟩ | ⟨x, l, c, zs, hcs, _, hl, hm, hz, _, hcell, hwz⟩
  · simp [Value.cells] at hcs
    obtain ⟨rfl, rfl, rfl⟩ := hcs
    exact ⟨[], ⟨rfl, by simp, .inl rfl⟩, Nat.le_refl _, Nat.zero_le _⟩
  · simp [Value.cells] at hcs
    obtain ⟨rfl, rfl, rfl⟩ := hcs
    have hl2 : len ≤ zs.length := by rw [hz]; split <;> omega
    have hb : ∀ i, i < zs.length → 0 ≤ zs.getD i 0 ∧ zs.getD i 0 ≤ 4294967295 := fun i hi => by
      have := hwz (zs.getD i 0) (by rw [List.getD_eq_getElem?_getD, List.getElem?_eq_getElem hi]; exact List.getElem_mem hi)
      exact Go.bounds_u32 this
    have eg : ∀ i, i < len → ((zs.take len).map Int.toNat).getD i 0 = (zs.getD i 0).toNat := fun i hi => by
      rw [List.getD_eq_getElem?_getD, List.getElem?_map, List.getElem?_take, if_pos hi, List.getD_eq_getElem?_getD]
      cases zs[i]? <;> rfl
    refine ⟨(zs.take len).map Int.toNat, ⟨by simp; omega, fun i => ?_, ?_⟩, hl, hm⟩
    · by_cases hi : i < len
      · rw [eg i hi]
        have := hb i (by omega)
        omega
      · rw [Sh.getD_out _ _ (by simp; omega)]
        omega
    · by_cases h0 : len = 0
      · exact .inl h0
      · right
        obtain ⟨b, off, spot⟩ := x
        have h00 := hcell 0 (by omega)
        have hs : spot = none := by
          cases spot with
          | none => rfl
          | some k =>
            simp only [World.cell?, Addr.add] at h00
            split at h00 <;> simp at h00
        subst hs
        refine ⟨b, off, rfl, fun i hi => ?_⟩
        have hi2 : i < len := by simp at hi; omega
        have := hcell i (by omega)
        have e2 : (⟨b, off, none⟩ : Addr).add i = ⟨b, off + i, none⟩ := by simp [Addr.add]
        rw [e2] at this
        rw [eg i hi2, this]
        have := hb i (by omega)
        rw [show (((zs.getD i 0).toNat : Nat) : Int) = zs.getD i 0 by omega]
def wOf (us : List Nat) : List Nat := us.map fun u => 1 + u % 1000000
theorem wOf_getD (us : List Nat) (i : Nat) (hi : i < us.length) : (wOf us).getD i 0 = 1 + us.getD i 0 % 1000000 := by
  unfold wOf
  rw [List.getD_eq_getElem?_getD, List.getElem?_map, List.getD_eq_getElem?_getD, List.getElem?_eq_getElem hi]
  rfl
theorem wOf_len (us : List Nat) : (wOf us).length = us.length := by simp [wOf]
theorem wOf_bd (us : List Nat) (i : Nat) (hi : i < us.length) : 1 ≤ (wOf us).getD i 0 ∧ (wOf us).getD i 0 ≤ 1000000 := by rw [wOf_getD us i hi]; omega
theorem ni_I64 (l : List Nat) (h : ∀ i, i < l.length → l.getD i 0 ≤ 9223372036854775807) : ∀ z ∈ ni l, Wd.I64 z := by
  intro z hz
  obtain ⟨i, hi, rfl⟩ := mem_getD hz
  rw [ni_getD]
  have := h i (by simpa [ni] using hi)
  unfold Wd.I64
  omega
theorem take_ni_succ (us : List Nat) (f : Nat → Nat) (k : Nat) (h : k < us.length) : ni ((us.take (k + 1)).map f) = ni ((us.take k).map f) ++ [((f (us.getD k 0) : Nat) : Int)] := by
  rw [map_take_succ f us k 0 h]
  unfold ni
  rw [List.map_append]
  rfl

set_option maxHeartbeats 2000000 in
theorem weights_own (a : Option Addr) (n cap : Nat) (us : List Nat) (w : World) (hn : IsU32 w a n us) (hn8 : n ≤ 8) :
    Calls Tryd.prog 26 #[.slice a n cap] w fun e w' => ∃ v, e = .returned v ∧ w'.ownsRow w.heap.size 2 1 v n (iv (ni (wOf us))) ∧ Below w.heap.size w w' := by
  obtain ⟨hl, hu, hn⟩ := hn
  rcases hn with rfl | ⟨b, off, rfl, hn⟩
  · go_enter Tryd.func26, Tryd.ntmps26
    go_wp2_with fail
    refine wp_loop_rounds 1 ?_
    rw [rounds_succ]
    go_wp2
    go_ret
    obtain rfl : us = [] := List.length_eq_zero_iff.1 hl
    exact ⟨_, rfl, ⟨rfl, .inl ⟨rfl, rfl⟩⟩, Below.refl _ _⟩
  · have HN := Lib.hid hn
    have HU := Lib.hid hu
    clear hn hu
    go_enter Tryd.func26, Tryd.ntmps26
    go_wp2_with fail
    go_loopw [3, 8] (fun v i wr => ∃ k : Nat, k ≤ n ∧ i = .int .i64 k ∧ wr.ownsRow w.heap.size 2 1 v k (iv (ni ((us.take k).map fun u => 1 + u % 1000000))) ∧ Below w.heap.size w wr) (fun _ i _ => n - (intOf i).toNat)
    case atStart => exact ⟨0, by omega, rfl, ⟨rfl, .inl ⟨rfl, rfl⟩⟩, Below.refl _ _⟩
    case round =>
      obtain ⟨k, hk, rfl, hown, BB⟩ := hrel
      by_cases hlt : k < n
      · have hkz : k < us.length := by omega
        have hc : wr.cell? ⟨b, off + k, none⟩ = some (.int .u32 ((us.getD k 0 : Nat) : Int)) := (BB.cell (block_lt_of_cell (HN.out k hkz))).trans (HN.out k hkz)
        have hz := HU.out k
        have HM := Lib.hid (take_ni_succ us (fun u => 1 + u % 1000000) k hkz)
        generalize us.getD k 0 = z at *
        have e1 : IntKind.i64.wrap (1 + (z : Int) % 1000000) = ((1 + z % 1000000 : Nat) : Int) := by rw [IntKind.wrap_i64]; omega
        go_wp2_with (at_builtin; refine list_append rfl _ _ rfl (below_alloc BB _) _ k _ rfl (own_alloc hown _) wr.heap.size 0 1 1 [((1 + z % 1000000 : Nat) : Int)] rfl rfl (nums_one ((Row.new wr _ _).cell 0)) (by omega) ?_; intro v2 w2 hown2 hB2)
        go_roundw
        case rel => exact ⟨k + 1, by omega, by go_num, by rw [HM.out]; exact hown2, hB2⟩
        case measure => simp [intOf]; omega
      · have hk0 : n = k := by omega
        subst hk0
        rw [List.take_of_length_le (by omega)] at hown
        go_wp2
        go_ret
        exact ⟨_, rfl, hown, BB⟩
theorem wOf_I64 (us : List Nat) : ∀ z ∈ ni (wOf us), Wd.I64 z := ni_I64 (wOf us) (fun i hi => by have := wOf_bd us i (by rwa [wOf_len] at hi); omega)
theorem weights_any (a : Option Addr) (n cap : Nat) (us : List Nat) (w : World) (hn : IsU32 w a n us) (hn8 : n ≤ 8) :
    Calls Tryd.prog 26 #[.slice a n cap] w fun e w' => ∃ q k, e = .returned (.slice q n k) ∧ IsNums w' q n (ni (wOf us)) ∧ Below w.heap.size w w' := by
  refine (weights_own a n cap us w hn hn8).mono ?_
  rintro _ w' ⟨v, rfl, hown, hb⟩
  obtain ⟨q, k, rfl, hN⟩ := nums_of_own hown (wOf_I64 us)
  exact ⟨q, k, rfl, hN, hb⟩
end Go.Proofs.YtpgjmhhdhngdcaaDoor
