/-
  Own texts, several in one (QuietS, Ns, SearchN).
-/
import Derived.Test.YtbhjkddjgikaiaaGreatDoorMrg5
import Derived.BigQuiet
import Derived.Test.YtbhjkddjgikaiaaGreatDoorMrg6
import Derived.Test.YtbhjkddjgikaiaaGreatDoorMrg11
namespace Go.Proofs.YtbhjkddjgikaiaaGreatDoor
open Go.RowKit
set_option linter.unusedVariables false
set_option linter.unusedSimpArgs false

/-- a world that meets S -/
structure QW (S : World → Prop) where
  w : World
  h : S w
theorem region_quietS {P : Program} {id : Nat} {Q : Exit → Act → World → Prop} {a : Act} {w : World} {l : List Oper} (S : World → Prop) (hm : P.follows .mixedOrders = true) (hB : Region.lexB .any l.toArray = true) (hS : S w.drew)
    (h : Nonempty (QW S) → wpQuiet P l.toArray (fun w' => ∃ n : QW S, w' = n.w) (fun a' => ∀ w', (∃ n : QW S, w' = n.w) → Q .normal a' w') l a) : (Code.region id l.toArray true).wp P Q a w :=
  wp_region_quiet (C := fun w' => ∃ n : QW S, w' = n.w) hm hB ⟨⟨_, hS⟩, rfl⟩ (by simpa using h ⟨⟨_, hS⟩⟩)
end Go.Proofs.YtbhjkddjgikaiaaGreatDoor

namespace Go.Proofs.YtbhjkddjgikaiaaGreatDoor
open Go.RowKit
set_option linter.unusedVariables false
set_option linter.unusedSimpArgs false

def nv (k : IntKind) (l : List Int) : List Value := l.map (.int k)
def NsAt (k : IntKind) (w : World) (v : Value) (l : List Int) : Prop := ∃ p cap, v = .slice p l.length cap ∧ (l = [] ∨ ∃ b off, p = some ⟨b, off, none⟩ ∧ ∀ i, i < l.length → w.cell? ⟨b, off + i, none⟩ = some (.int k (l.getD i 0)))
theorem NsAt.below {k : IntKind} {w w' : World} {v : Value} {l : List Int} (h : NsAt k w v l) (hb : Below w.heap.size w w') : NsAt k w' v l := by
  obtain ⟨p, cap, e, h⟩ := h
  refine ⟨p, cap, e, ?_⟩
  rcases h with h | ⟨b, off, e2, h⟩
  · exact .inl h
  · exact .inr ⟨b, off, e2, fun i hi => cell_then (h i hi) hb⟩
theorem NsAt.of_own {k : IntKind} {w : World} {B n : Nat} {e : TypeId} {v : Value} {l : List Int} (h : w.ownsRow B e 1 v n (nv k l)) : NsAt k w v l ∧ l.length = n := by
  obtain ⟨h1, h2⟩ := h
  have hl : l.length = n := by simpa [nv] using h1
  refine ⟨?_, hl⟩
  rcases h2 with ⟨rfl, rfl⟩ | ⟨g, cap, cur, rfl, _, hh, _, _, hs, ht⟩
  · exact ⟨none, 0, by rw [hl], .inl (List.length_eq_zero_iff.1 hl)⟩
  · refine ⟨_, cap, by rw [hl], .inr ⟨g, 0, rfl, fun i hi => ?_⟩⟩
    rw [cell_of_row w g (0 + i) cur e _ hh, Nat.zero_add]
    have e1 : (nv k l)[i]? = some (.int k (l.getD i 0)) := by
      unfold nv
      rw [List.getElem?_map, List.getElem?_eq_getElem hi]
      simp [List.getD_eq_getElem?_getD, hi]
    rw [← ht, Nat.mul_one, List.getElem?_take, if_pos (by omega)] at e1
    simpa using e1
theorem NsAt.of_row {k : IntKind} {w : World} {g cap : Nat} {t : TypeId} {l : List Int} (R : Row w g (nv k l).toArray t) : NsAt k w (.slice (some ⟨g, 0, none⟩) l.length cap) l := by
  refine ⟨_, cap, rfl, .inr ⟨g, 0, rfl, fun i hi => ?_⟩⟩
  rw [Nat.zero_add, R.cell i]
  unfold nv
  simp [List.getElem?_map, List.getD_eq_getElem?_getD, hi]
end Go.Proofs.YtbhjkddjgikaiaaGreatDoor

namespace Go.Proofs.YtbhjkddjgikaiaaGreatDoor
open Go.RowKit
set_option linter.unusedVariables false
set_option linter.unusedSimpArgs false

/-- i numbers are below x, and they stand first -/
def PosN (l : List Int) (x : Int) (i : Nat) : Prop := i ≤ l.length ∧ (∀ t, t < i → l.getD t 0 < x) ∧ ∀ t, i ≤ t → t < l.length → x ≤ l.getD t 0
theorem cNaN_u16 (x : Int) (w : World) : Calls Tryz.prog 241 #[.int .u16 x] w fun e w' => e = .returned (.bool false) ∧ w' = w := by
  go_enter Tryz.func241, Tryz.ntmps241
  go_wp2
  go_ret
  exact ⟨rfl, rfl⟩
theorem sNaN_u16 (x : Int) (w : World) : Calls Tryz.prog 211 #[.int .u16 x] w fun e w' => e = .returned (.bool false) ∧ w' = w := by
  go_enter Tryz.func211, Tryz.ntmps211
  go_wp2
  go_ret
  exact ⟨rfl, rfl⟩
theorem cless_u16 (x y : Int) (w : World) : Calls Tryz.prog 206 #[.int .u16 x, .int .u16 y] w fun e w' => e = .returned (.bool (decide (x < y))) ∧ w' = w := by
  go_enter Tryz.func206, Tryz.ntmps206
  go_wp2_with fail
  refine (cNaN_u16 x w).mono ?_
  rintro _ _ ⟨rfl, rfl⟩
  go_wp2_with fail
  go_ret
  exact ⟨rfl, rfl⟩
set_option maxHeartbeats 1000000 in
set_option maxRecDepth 100000 in
theorem search_u16 (v : Value) (l : List Int) (x : Int) (i : Nat) (w : World) (hN : NsAt .u16 w v l) (hl : l.length ≤ 1000000) (hp : PosN l x i) :
    Calls Tryz.prog 171 #[v, .int .u16 x] w fun e w' => e = .returned (.tuple #[.int .i64 (i : Int), .bool (decide (i < l.length) && decide (l.getD i 0 = x))]) ∧ Below w.heap.size w w' := by
  obtain ⟨a, cap, rfl, hE⟩ := hN
  have HE := Lib.hid hE
  have HL := Lib.hid hl
  have HP := Lib.hid hp
  clear hE hl hp
  go_enter Tryz.func171, Tryz.ntmps171
  go_wp2_with fail
  go_loopw [7, 8] (fun iv jv wr => ∃ p q : Nat, iv = .int .i64 (p : Int) ∧ jv = .int .i64 (q : Int) ∧ p ≤ i ∧ i ≤ q ∧ q ≤ l.length ∧ Below w.heap.size w wr) (fun iv jv _ => (intOf jv).toNat - (intOf iv).toNat)
  case atStart => exact ⟨0, l.length, rfl, rfl, by omega, HP.out.1, by omega, Below.refl _ _⟩
  case round =>
    obtain ⟨p, q, rfl, rfl, h1, h2, h3, BB⟩ := hrel
    have HBB := Lib.hid BB
    clear BB
    by_cases hpq : p < q
    · have hpqi : (p : Int) < (q : Int) := by omega
      have HH := Lib.hid (And.intro h1 (And.intro h2 (And.intro h3 hpq)))
      obtain ⟨h, hh⟩ : ∃ h, h = (p + q) / 2 := ⟨_, rfl⟩
      have e0 : IntKind.i64.wrap ((p : Int) + (q : Int)) = (p : Int) + (q : Int) := by have := HL.out; rw [IntKind.wrap_i64]; omega
      have e1 : IntKind.u64.wrap ((p : Int) + (q : Int)) = (p : Int) + (q : Int) := by have := HL.out; rw [IntKind.wrap_u64]; omega
      have e2 : ((p : Int) + (q : Int)) / 2 = (h : Int) := by omega
      have e3 : IntKind.i64.wrap (h : Int) = (h : Int) := by have := HL.out; rw [IntKind.wrap_i64]; omega
      have hlt : h < l.length := by omega
      have hk1 : (0 : Int) ≤ (h : Int) := by omega
      have hk2 : (h : Int) < (l.length : Int) := by omega
      have HQ := Lib.hid (And.intro hh hlt)
      obtain ⟨bl, off, rfl, hcells⟩ : ∃ b off, a = some ⟨b, off, none⟩ ∧ ∀ i, i < l.length → w.cell? ⟨b, off + i, none⟩ = some (.int .u16 (l.getD i 0)) := by
        rcases HE.out with h | h
        · exact absurd hlt (by rw [h]; simp)
        · exact h
      have HLT := Lib.hid (HP.out.2.1 h)
      have HGE := Lib.hid (fun hi => HP.out.2.2 h hi hlt)
      have c0 := cell_then (hcells h hlt) HBB.out
      generalize l.getD h 0 = y at *
      clear h1 h2 h3 hpq hh hlt hcells
      go_wp2_with fail
      refine (cless_u16 y x wr).mono ?_
      rintro _ _ ⟨rfl, rfl⟩
      by_cases hc : y < x
      · have hi : h < i := by
          by_cases c : h < i
          · exact c
          · have := HGE.out (by omega)
            omega
        rw [decide_eq_true hc]
        have ev : IntKind.i64.wrap ((h : Int) + 1) = ((h + 1 : Nat) : Int) := by have := HL.out; have := HQ.out; rw [IntKind.wrap_i64]; omega
        clear hc
        go_wp2_with fail
        have := HH.out
        have := HQ.out
        exact ⟨⟨h + 1, q, by push_cast; rfl, rfl, by omega, by omega, by omega, HBB.out⟩, by simp [intOf]; omega⟩
      · have hi : i ≤ h := by
          by_cases c : i ≤ h
          · exact c
          · exact absurd (HLT.out (by omega)) hc
        rw [decide_eq_false hc]
        clear hc
        go_wp2_with fail
        have := HH.out
        have := HQ.out
        exact ⟨⟨p, h, rfl, rfl, by omega, by omega, by omega, HBB.out⟩, by simp [intOf]; omega⟩
    · obtain rfl : p = i := by omega
      obtain rfl : q = p := by omega
      have hqq : ¬ ((q : Int) < (q : Int)) := by omega
      by_cases hlt : q < l.length
      · have hk1 : (0 : Int) ≤ (q : Int) := by omega
        have hk2 : (q : Int) < (l.length : Int) := by omega
        obtain ⟨bl, off, rfl, hcells⟩ : ∃ b off, a = some ⟨b, off, none⟩ ∧ ∀ i, i < l.length → w.cell? ⟨b, off + i, none⟩ = some (.int .u16 (l.getD i 0)) := by
          rcases HE.out with h | h
          · exact absurd hlt (by rw [h]; simp)
          · exact h
        have c0 := cell_then (hcells q hlt) HBB.out
        have HQL := Lib.hid hlt
        obtain ⟨y, hy⟩ : ∃ y, y = l.getD q 0 := ⟨_, rfl⟩
        rw [← hy] at c0
        have HY := Lib.hid hy
        clear h1 h2 h3 hpq hlt hcells hy
        by_cases hxy : y = x
        · have hb : (y == x) = true := by rw [beq_iff_eq]; exact hxy
          have HXY := Lib.hid hxy
          clear hxy
          go_wp2_with fail
          refine bodyPost_ret (v := .tuple #[.int .i64 (q : Int), .bool true]) (by simp [results, Tryz.results171, go_sem]) rfl ⟨?_, HBB.out⟩
          show Ending.returned _ = Ending.returned (.tuple #[.int .i64 (q : Int), .bool (decide (q < l.length) && decide (l.getD q 0 = x))])
          rw [decide_eq_true HQL.out, ← HY.out, decide_eq_true HXY.out]
          rfl
        · have hb : (y == x) = false := by rw [beq_eq_false_iff_ne]; exact hxy
          have HXY := Lib.hid hxy
          clear hxy
          go_wp2_with fail
          refine (sNaN_u16 y wr).mono ?_
          rintro _ _ ⟨rfl, rfl⟩
          go_wp2_with fail
          refine bodyPost_ret (v := .tuple #[.int .i64 (q : Int), .bool false]) (by simp [results, Tryz.results171, go_sem]) rfl ⟨?_, HBB.out⟩
          show Ending.returned _ = Ending.returned (.tuple #[.int .i64 (q : Int), .bool (decide (q < l.length) && decide (l.getD q 0 = x))])
          rw [← HY.out, decide_eq_false HXY.out, Bool.and_false]
      · have hk2 : ¬ (q : Int) < (l.length : Int) := by omega
        have HQL := Lib.hid hlt
        clear hlt
        go_wp2_with fail
        refine bodyPost_ret (v := .tuple #[.int .i64 (q : Int), .bool false]) (by simp [results, Tryz.results171, go_sem]) rfl ⟨?_, HBB.out⟩
        rw [decide_eq_false HQL.out, Bool.false_and]
theorem cNaN_day (x : Int) (w : World) : Calls Tryz.prog 218 #[.int .i32 x] w fun e w' => e = .returned (.bool false) ∧ w' = w := by
  go_enter Tryz.func218, Tryz.ntmps218
  go_wp2
  go_ret
  exact ⟨rfl, rfl⟩
theorem sNaN_day (x : Int) (w : World) : Calls Tryz.prog 179 #[.int .i32 x] w fun e w' => e = .returned (.bool false) ∧ w' = w := by
  go_enter Tryz.func179, Tryz.ntmps179
  go_wp2
  go_ret
  exact ⟨rfl, rfl⟩
theorem cless_day (x y : Int) (w : World) : Calls Tryz.prog 178 #[.int .i32 x, .int .i32 y] w fun e w' => e = .returned (.bool (decide (x < y))) ∧ w' = w := by
  go_enter Tryz.func178, Tryz.ntmps178
  go_wp2_with fail
  refine (cNaN_day x w).mono ?_
  rintro _ _ ⟨rfl, rfl⟩
  go_wp2_with fail
  go_ret
  exact ⟨rfl, rfl⟩
set_option maxHeartbeats 1000000 in
set_option maxRecDepth 100000 in
theorem search_day (v : Value) (l : List Int) (x : Int) (i : Nat) (w : World) (hN : NsAt .i32 w v l) (hl : l.length ≤ 1000000) (hp : PosN l x i) :
    Calls Tryz.prog 128 #[v, .int .i32 x] w fun e w' => e = .returned (.tuple #[.int .i64 (i : Int), .bool (decide (i < l.length) && decide (l.getD i 0 = x))]) ∧ Below w.heap.size w w' := by
  obtain ⟨a, cap, rfl, hE⟩ := hN
  have HE := Lib.hid hE
  have HL := Lib.hid hl
  have HP := Lib.hid hp
  clear hE hl hp
  go_enter Tryz.func128, Tryz.ntmps128
  go_wp2_with fail
  go_loopw [7, 8] (fun iv jv wr => ∃ p q : Nat, iv = .int .i64 (p : Int) ∧ jv = .int .i64 (q : Int) ∧ p ≤ i ∧ i ≤ q ∧ q ≤ l.length ∧ Below w.heap.size w wr) (fun iv jv _ => (intOf jv).toNat - (intOf iv).toNat)
  case atStart => exact ⟨0, l.length, rfl, rfl, by omega, HP.out.1, by omega, Below.refl _ _⟩
  case round =>
    obtain ⟨p, q, rfl, rfl, h1, h2, h3, BB⟩ := hrel
    have HBB := Lib.hid BB
    clear BB
    by_cases hpq : p < q
    · have hpqi : (p : Int) < (q : Int) := by omega
      have HH := Lib.hid (And.intro h1 (And.intro h2 (And.intro h3 hpq)))
      obtain ⟨h, hh⟩ : ∃ h, h = (p + q) / 2 := ⟨_, rfl⟩
      have e0 : IntKind.i64.wrap ((p : Int) + (q : Int)) = (p : Int) + (q : Int) := by have := HL.out; rw [IntKind.wrap_i64]; omega
      have e1 : IntKind.u64.wrap ((p : Int) + (q : Int)) = (p : Int) + (q : Int) := by have := HL.out; rw [IntKind.wrap_u64]; omega
      have e2 : ((p : Int) + (q : Int)) / 2 = (h : Int) := by omega
      have e3 : IntKind.i64.wrap (h : Int) = (h : Int) := by have := HL.out; rw [IntKind.wrap_i64]; omega
      have hlt : h < l.length := by omega
      have hk1 : (0 : Int) ≤ (h : Int) := by omega
      have hk2 : (h : Int) < (l.length : Int) := by omega
      have HQ := Lib.hid (And.intro hh hlt)
      obtain ⟨bl, off, rfl, hcells⟩ : ∃ b off, a = some ⟨b, off, none⟩ ∧ ∀ i, i < l.length → w.cell? ⟨b, off + i, none⟩ = some (.int .i32 (l.getD i 0)) := by
        rcases HE.out with h | h
        · exact absurd hlt (by rw [h]; simp)
        · exact h
      have HLT := Lib.hid (HP.out.2.1 h)
      have HGE := Lib.hid (fun hi => HP.out.2.2 h hi hlt)
      have c0 := cell_then (hcells h hlt) HBB.out
      generalize l.getD h 0 = y at *
      clear h1 h2 h3 hpq hh hlt hcells
      go_wp2_with fail
      refine (cless_day y x wr).mono ?_
      rintro _ _ ⟨rfl, rfl⟩
      by_cases hc : y < x
      · have hi : h < i := by
          by_cases c : h < i
          · exact c
          · have := HGE.out (by omega)
            omega
        rw [decide_eq_true hc]
        have ev : IntKind.i64.wrap ((h : Int) + 1) = ((h + 1 : Nat) : Int) := by have := HL.out; have := HQ.out; rw [IntKind.wrap_i64]; omega
        clear hc
        go_wp2_with fail
        have := HH.out
        have := HQ.out
        exact ⟨⟨h + 1, q, by push_cast; rfl, rfl, by omega, by omega, by omega, HBB.out⟩, by simp [intOf]; omega⟩
      · have hi : i ≤ h := by
          by_cases c : i ≤ h
          · exact c
          · exact absurd (HLT.out (by omega)) hc
        rw [decide_eq_false hc]
        clear hc
        go_wp2_with fail
        have := HH.out
        have := HQ.out
        exact ⟨⟨p, h, rfl, rfl, by omega, by omega, by omega, HBB.out⟩, by simp [intOf]; omega⟩
    · obtain rfl : p = i := by omega
      obtain rfl : q = p := by omega
      have hqq : ¬ ((q : Int) < (q : Int)) := by omega
      by_cases hlt : q < l.length
      · have hk1 : (0 : Int) ≤ (q : Int) := by omega
        have hk2 : (q : Int) < (l.length : Int) := by omega
        obtain ⟨bl, off, rfl, hcells⟩ : ∃ b off, a = some ⟨b, off, none⟩ ∧ ∀ i, i < l.length → w.cell? ⟨b, off + i, none⟩ = some (.int .i32 (l.getD i 0)) := by
          rcases HE.out with h | h
          · exact absurd hlt (by rw [h]; simp)
          · exact h
        have c0 := cell_then (hcells q hlt) HBB.out
        have HQL := Lib.hid hlt
        obtain ⟨y, hy⟩ : ∃ y, y = l.getD q 0 := ⟨_, rfl⟩
        rw [← hy] at c0
        have HY := Lib.hid hy
        clear h1 h2 h3 hpq hlt hcells hy
        by_cases hxy : y = x
        · have hb : (y == x) = true := by rw [beq_iff_eq]; exact hxy
          have HXY := Lib.hid hxy
          clear hxy
          go_wp2_with fail
          refine bodyPost_ret (v := .tuple #[.int .i64 (q : Int), .bool true]) (by simp [results, Tryz.results128, go_sem]) rfl ⟨?_, HBB.out⟩
          show Ending.returned _ = Ending.returned (.tuple #[.int .i64 (q : Int), .bool (decide (q < l.length) && decide (l.getD q 0 = x))])
          rw [decide_eq_true HQL.out, ← HY.out, decide_eq_true HXY.out]
          rfl
        · have hb : (y == x) = false := by rw [beq_eq_false_iff_ne]; exact hxy
          have HXY := Lib.hid hxy
          clear hxy
          go_wp2_with fail
          refine (sNaN_day y wr).mono ?_
          rintro _ _ ⟨rfl, rfl⟩
          go_wp2_with fail
          refine bodyPost_ret (v := .tuple #[.int .i64 (q : Int), .bool false]) (by simp [results, Tryz.results128, go_sem]) rfl ⟨?_, HBB.out⟩
          show Ending.returned _ = Ending.returned (.tuple #[.int .i64 (q : Int), .bool (decide (q < l.length) && decide (l.getD q 0 = x))])
          rw [← HY.out, decide_eq_false HXY.out, Bool.and_false]
      · have hk2 : ¬ (q : Int) < (l.length : Int) := by omega
        have HQL := Lib.hid hlt
        clear hlt
        go_wp2_with fail
        refine bodyPost_ret (v := .tuple #[.int .i64 (q : Int), .bool false]) (by simp [results, Tryz.results128, go_sem]) rfl ⟨?_, HBB.out⟩
        rw [decide_eq_false HQL.out, Bool.false_and]
end Go.Proofs.YtbhjkddjgikaiaaGreatDoor
