/-
  The machine's side of the law ShareErrors: it answers true.
-/
import Derived.Test.YtpgjmhhdhngdcaaDoorAwake3
namespace Go.Proofs.YtpgjmhhdhngdcaaDoor
open Go.RowKit
set_option linter.unusedVariables false
set_option linter.unusedSimpArgs false

def badB (zs : List Int) (k : Nat) : Bool := (zs.take k).any fun z => decide (z < 1) || decide (1000000 < z)
theorem badB_succ (zs : List Int) (k : Nat) (h : k < zs.length) : badB zs (k + 1) = (badB zs k || (decide (zs.getD k 0 < 1) || decide (1000000 < zs.getD k 0))) := by
  unfold badB
  rw [List.take_succ_eq_append_getElem h, List.any_append]
  simp [List.getD_eq_getElem?_getD, h]
theorem badB_no {zs : List Int} (h : badB zs zs.length = false) (i : Nat) (hi : i < zs.length) : 1 ≤ zs.getD i 0 ∧ zs.getD i 0 ≤ 1000000 := by
  unfold badB at h
  rw [List.take_length, List.any_eq_false] at h
  have := h (zs.getD i 0) (by rw [List.getD_eq_getElem?_getD, List.getElem?_eq_getElem hi]; exact List.getElem_mem hi)
  simp only [Bool.or_eq_true, decide_eq_true_eq, not_or] at this
  omega
theorem badB_yes {zs : List Int} (h : badB zs zs.length = true) : ∃ i, i < zs.length ∧ ¬ (1 ≤ zs.getD i 0 ∧ zs.getD i 0 ≤ 1000000) := by
  unfold badB at h
  rw [List.take_length, List.any_eq_true] at h
  obtain ⟨z, hz, h⟩ := h
  obtain ⟨i, hi, rfl⟩ := mem_getD hz
  refine ⟨i, hi, ?_⟩
  simp only [Bool.or_eq_true, decide_eq_true_eq] at h
  omega
/-- what Allot says of these weights -/
def shErr (zs : List Int) : Int := if zs.length < 1 ∨ 8 < zs.length then 2 else if badB zs zs.length then 5 else 0
theorem allot_all (a : Int) (p : Option Addr) (n cap : Nat) (zs : List Int) (w : World) (hI : Wd.I64 a) (hn : IsNums w p n zs) :
    Calls Tryd.prog 27 #[.int .i64 a, .slice p n cap] w fun e w' => ∃ q m k, e = .returned (.tuple #[.slice q m k, .int .i64 (shErr zs)]) ∧ (shErr zs = 0 ∨ m = 0) ∧ Below w.heap.size w w' := by
  have hl := hn.1
  by_cases h : n < 1 ∨ 8 < n
  · refine (allot_size a p n cap w h).mono ?_
    rintro _ w' ⟨rfl, rfl⟩
    have e : shErr zs = 2 := by unfold shErr; rw [if_pos (by omega)]
    exact ⟨none, 0, 0, by rw [e], .inr rfl, Below.refl _ _⟩
  · cases hb : badB zs zs.length with
    | true =>
      have e : shErr zs = 5 := by unfold shErr; rw [if_neg (by omega), if_pos hb]
      obtain ⟨_, hz, hN⟩ := hn
      rcases hN with h0 | ⟨b, off, rfl, hN⟩
      · omega
      · refine (allot_range a b off n cap zs w hN hz hl (by omega) (by omega) (hl ▸ badB_yes hb)).mono ?_
        rintro _ w' ⟨rfl, rfl⟩
        exact ⟨none, 0, 0, by rw [e], .inr rfl, Below.refl _ _⟩
    | false =>
      have e : shErr zs = 0 := by unfold shErr; rw [if_neg (by omega), if_neg (by rw [hb]; simp)]
      have hg := badB_no hb
      have ez : ni (zs.map Int.toNat) = zs := by
        unfold ni
        rw [List.map_map]
        refine List.ext_getElem (by simp) fun i h1 h2 => ?_
        have := hg i h2
        rw [List.getD_eq_getElem?_getD, List.getElem?_eq_getElem h2] at this
        simp at this ⊢
        omega
      refine (allot_nums a p n cap (zs.map Int.toNat) w hI (by rw [ez]; exact hn) (by omega) (by omega) (fun i hi => by
        have := hg i (by omega)
        have e2 : (zs.map Int.toNat).getD i 0 = (zs.getD i 0).toNat := by
          rw [List.getD_eq_getElem?_getD, List.getElem?_map, List.getD_eq_getElem?_getD]
          cases zs[i]? <;> rfl
        rw [e2]
        omega)).mono ?_
      rintro _ w' ⟨q, k, rfl, _, hb2⟩
      exact ⟨q, n, k, by rw [e], .inl e, hb2⟩

set_option maxHeartbeats 2000000 in
theorem shareErrors_any (a : Int) (p : Option Addr) (n cap : Nat) (zs : List Int) (w : World) (hG : Glb w) (hI : Wd.I64 a) (hn : IsNums w p n zs) (h20 : n ≤ 20) :
    Calls Tryd.prog 10 #[.int .i64 a, .slice p n cap] w fun e w' => e = .returned (.bool true) ∧ Below w.heap.size w w' := by
  have hl := hn.1
  have HN := Lib.hid hn
  clear hn
  have hq0 : ((20 : Int) < (n : Int)) = False := by simp; omega
  go_enter Tryd.func10, Tryd.ntmps10
  go_wp2_with fail
  refine (awake3 _ hG).mono ?_
  rintro _ w1 ⟨rfl, hb1⟩
  replace HN := Lib.hid (HN.out.below hb1)
  go_wp2_with fail
  go_loopw [5, 17] (fun e i wr => ∃ k : Nat, k ≤ n ∧ i = .int .i64 k ∧ e = .int .i64 (if badB zs k then 5 else 0) ∧ w1 = wr) (fun _ i _ => n - (intOf i).toNat)
  case atStart => exact ⟨0, by omega, rfl, rfl, rfl⟩
  case round =>
    obtain ⟨k, hk, rfl, rfl, hw⟩ := hrel
    subst hw
    by_cases hlt : k < n
    · obtain ⟨_, _, hN⟩ := HN.out
      rcases hN with h0 | ⟨b, off, rfl, hN⟩
      · omega
      have hc := hN k (by omega)
      have hs := Lib.hid (badB_succ zs k (by omega))
      clear hN
      generalize badB zs k = bk at *
      generalize zs.getD k 0 = z at *
      by_cases h1 : z < 1
      · have hs2 : badB zs (k + 1) = true := by rw [hs.out]; simp [h1]
        go_wp2
        go_roundw
        case rel => exact ⟨k + 1, by omega, by go_num, by rw [hs2]; rfl, trivial⟩
        case measure => simp [intOf]; omega
      · by_cases h2 : 1000000 < z
        · have hs2 : badB zs (k + 1) = true := by rw [hs.out]; simp [h2]
          go_wp2
          go_roundw
          case rel => exact ⟨k + 1, by omega, by go_num, by rw [hs2]; rfl, trivial⟩
          case measure => simp [intOf]; omega
        · have hs2 : badB zs (k + 1) = bk := by rw [hs.out]; simp [h1, h2]
          go_wp2
          go_roundw
          case rel => exact ⟨k + 1, by omega, by go_num, by rw [hs2], trivial⟩
          case measure => simp [intOf]; omega
    · have hk0 : n = k := by omega
      subst hk0
      have AL := Lib.hid (allot_all a p n cap zs w1 hI HN.out)
      have hE : shErr zs = if n < 1 ∨ 8 < n then 2 else if badB zs n then 5 else 0 := by unfold shErr; rw [hl]
      generalize badB zs n = bk at *
      generalize shErr zs = se at *
      subst hE
      by_cases h : n < 1 ∨ 8 < n
      · rw [if_pos h] at AL
        have hqs : ((n : Int) < 1) ∨ ((8 : Int) < (n : Int)) := by omega
        rcases h with h | h
        · have hq1 : (n : Int) < 1 := by omega
          go_wp2_with fail
          refine AL.out.mono ?_
          rintro _ w2 ⟨q, m, k, rfl, hm, hb2⟩
          obtain rfl : m = 0 := by rcases hm with h | h; cases h; exact h
          go_wp2
          go_ret
          exact ⟨rfl, below_then hb1 hb2⟩
        · have hq1 : ¬ (n : Int) < 1 := by omega
          have hq2 : (8 : Int) < (n : Int) := by omega
          go_wp2_with fail
          refine AL.out.mono ?_
          rintro _ w2 ⟨q, m, k, rfl, hm, hb2⟩
          obtain rfl : m = 0 := by rcases hm with h | h; cases h; exact h
          go_wp2
          go_ret
          exact ⟨rfl, below_then hb1 hb2⟩
      · rw [if_neg h] at AL
        have hq1 : ¬ (n : Int) < 1 := by omega
        have hq2 : ¬ (8 : Int) < (n : Int) := by omega
        cases bk
        · go_wp2_with fail
          refine AL.out.mono ?_
          rintro _ w2 ⟨q, m, k, rfl, hm, hb2⟩
          go_wp2
          go_ret
          exact ⟨rfl, below_then hb1 hb2⟩
        · go_wp2_with fail
          refine AL.out.mono ?_
          rintro _ w2 ⟨q, m, k, rfl, hm, hb2⟩
          obtain rfl : m = 0 := by rcases hm with h | h; cases h; exact h
          go_wp2
          go_ret
          exact ⟨rfl, below_then hb1 hb2⟩
theorem shareErrors_law (a : Int) (p : Option Addr) (n cap : Nat) (zs : List Int) (w : World) (hG : Glb w) (hI : Wd.I64 a) (hn : IsNums w p n zs) :
    Calls Tryd.prog 10 #[.int .i64 a, .slice p n cap] w fun e w' => e = .returned (.bool true) ∧ Below w.heap.size w w' := by
  by_cases h : n ≤ 20
  · exact shareErrors_any a p n cap zs w hG hI hn h
  · have hq0 : (20 : Int) < (n : Int) := by omega
    go_enter Tryd.func10, Tryd.ntmps10
    go_wp2_with fail
    refine (awake3 _ hG).mono ?_
    rintro _ w1 ⟨rfl, hb1⟩
    go_wp2
    go_ret
    exact ⟨rfl, hb1⟩
end Go.Proofs.YtpgjmhhdhngdcaaDoor
