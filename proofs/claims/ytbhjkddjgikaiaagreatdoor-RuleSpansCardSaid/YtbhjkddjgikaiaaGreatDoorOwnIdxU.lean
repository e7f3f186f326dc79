/-
  Own texts, several in one (IdxU, SortU, SortV).
-/
import Derived.Test.YtbhjkddjgikaiaaGreatDoorMrg13
import Derived.Test.YtbhjkddjgikaiaaGreatDoorOwnGet6
import Derived.Test.YtbhjkddjgikaiaaGreatDoorMrg14
import Derived.Test.YtbhjkddjgikaiaaGreatDoorMrg17
namespace Go.Proofs.YtbhjkddjgikaiaaGreatDoor
open Go.RowKit
set_option linter.unusedVariables false
set_option linter.unusedSimpArgs false
set_option maxHeartbeats 2000000 in
theorem index_u16 (v : Value) (l : List Int) (x : Int) (w : World) (hN : NsAt .u16 w v l) (hl : l.length ≤ 1000000) :
    Calls Tryz.prog 165 #[v, .int .u16 x] w fun e w' => ∃ r : Int, e = .returned (.int .i64 r) ∧ (0 ≤ r ↔ x ∈ l) ∧ w' = w := by
  obtain ⟨p, cap, rfl, hc⟩ := hN
  have HC := Lib.hid hc
  have HL := Lib.hid hl
  clear hc hl
  go_enter Tryz.func165, Tryz.ntmps165
  go_wp2_with fail
  go_loopw [8] (fun iv wr => ∃ k : Nat, k ≤ l.length ∧ iv = .int .i64 (k : Int) ∧ (∀ t, t < k → l.getD t 0 ≠ x) ∧ wr = w) (fun iv _ => l.length - (intOf iv).toNat)
  case atStart => exact ⟨0, by omega, rfl, fun t ht => by omega, rfl⟩
  case round =>
    obtain ⟨k, hk, rfl, hno, rfl⟩ := hrel
    have HN := Lib.hid hno
    clear hno
    by_cases hlt : k < l.length
    · have i0 : (0 : Int) ≤ (k : Int) := by omega
      have i1 : (k : Int) < (l.length : Int) := by omega
      obtain ⟨b, off, rfl, hcc⟩ : ∃ b off, p = some ⟨b, off, none⟩ ∧ ∀ i, i < l.length → wr.cell? ⟨b, off + i, none⟩ = some (.int .u16 (l.getD i 0)) := by
        rcases HC.out with h | h
        · rw [h] at hlt; simp at hlt
        · exact h
      have ck := hcc k hlt
      have hmem : l.getD k 0 ∈ l := getD_mem hlt
      obtain ⟨y, hy⟩ : ∃ y, y = l.getD k 0 := ⟨_, rfl⟩
      rw [← hy] at ck hmem
      have HY := Lib.hid hy
      have HLT := Lib.hid hlt
      have HM := Lib.hid hmem
      have e5 : IntKind.i64.wrap ((k : Int) + 1) = (k : Int) + 1 := by rw [IntKind.wrap_i64]; have := HL.out; omega
      clear hcc hy hlt hk hmem
      by_cases hc : x = y
      · have q1 : (x == y) = true := by simp [hc]
        have HX := Lib.hid hc
        clear hc
        go_wp2_with fail
        go_ret
        exact ⟨_, rfl, ⟨fun _ => by rw [HX.out]; exact HM.out, fun _ => by omega⟩, rfl⟩
      · have q1 : (x == y) = false := beq_eq_false_iff_ne.2 hc
        have HX := Lib.hid hc
        clear hc
        go_wp2_with fail
        refine ⟨⟨k + 1, by have := HLT.out; omega, by simp, fun t ht => ?_, by trivial⟩, by have := HLT.out; simp [intOf]; omega⟩
        by_cases c : t < k
        · exact HN.out t c
        · obtain rfl : t = k := by omega
          rw [← HY.out]
          exact fun e => HX.out e.symm
    · have i1 : ¬ (k : Int) < (l.length : Int) := by omega
      have hnm : x ∉ l := fun h => by
        obtain ⟨t, ht, e⟩ := List.getElem_of_mem h
        have := HN.out t (by omega)
        rw [List.getD_eq_getElem?_getD, List.getElem?_eq_getElem ht] at this
        exact this e
      have HNM := Lib.hid hnm
      clear hnm hk hlt
      go_wp2_with fail
      go_ret
      exact ⟨_, rfl, ⟨fun h => by omega, fun h => absurd h HNM.out⟩, rfl⟩
theorem contains_u16 (v : Value) (l : List Int) (x : Int) (w : World) (hN : NsAt .u16 w v l) (hl : l.length ≤ 1000000) :
    Calls Tryz.prog 118 #[v, .int .u16 x] w fun e w' => e = .returned (.bool (decide (x ∈ l))) ∧ w' = w := by
  have HI := Lib.hid (index_u16 v l x w hN hl)
  clear hN hl
  go_enter Tryz.func118, Tryz.ntmps118
  go_wp2_with fail
  refine HI.out.mono ?_
  rintro _ w1 ⟨r, rfl, hr, rfl⟩
  have HR := Lib.hid hr
  clear HI hr
  by_cases c : 0 ≤ r
  · have hx : decide (x ∈ l) = true := decide_eq_true (HR.out.1 c)
    go_wp2_with fail
    go_ret
    exact ⟨by rw [hx]; rfl, rfl⟩
  · have hx : decide (x ∈ l) = false := decide_eq_false (fun h => c (HR.out.2 h))
    go_wp2_with fail
    go_ret
    exact ⟨by rw [hx]; show Ending.returned (.bool (decide (0 ≤ r))) = _; rw [decide_eq_false (by omega)], rfl⟩
end Go.Proofs.YtbhjkddjgikaiaaGreatDoor

namespace Go.Proofs.YtbhjkddjgikaiaaGreatDoor
open Go.RowKit
set_option linter.unusedVariables false
set_option linter.unusedSimpArgs false
def cellsU (ys : List Int) (rest : List Value) : Array Value := (nv .u16 ys ++ rest).toArray
theorem cellsU_get (ys : List Int) (rest : List Value) (j : Nat) (h : j < ys.length) : (cellsU ys rest)[j]? = some (.int .u16 (ys.getD j 0)) := by
  unfold cellsU nv
  simp [List.getElem?_append, h, List.getD]
theorem cellsU_set (ys : List Int) (rest : List Value) (j : Nat) (z : Int) (h : j < ys.length) : (cellsU ys rest).setIfInBounds j (.int .u16 z) = cellsU (ys.set j z) rest := by
  unfold cellsU nv
  rw [List.setIfInBounds_toArray, List.set_append_left _ _ (by simpa using h), List.map_set]
theorem sorted_in (A B : List Int) (x : Int) (h : (A ++ B).Pairwise (· ≤ ·)) (hB : ∀ b ∈ B, x ≤ b) (hA : ∀ a ∈ A, a ≤ x) : (A ++ x :: B).Pairwise (· ≤ ·) := by
  rw [List.pairwise_append] at h ⊢
  obtain ⟨h1, h2, h3⟩ := h
  refine ⟨h1, List.pairwise_cons.2 ⟨hB, h2⟩, fun a ha b hb => ?_⟩
  rcases List.mem_cons.1 hb with rfl | hb
  · exact hA a ha
  · exact h3 a ha b hb
theorem last_le (A : List Int) (a x : Int) (h : (A ++ [a]).Pairwise (· ≤ ·)) (hx : a ≤ x) : ∀ b ∈ A ++ [a], b ≤ x := by
  intro b hb
  rw [List.pairwise_append] at h
  rcases List.mem_append.1 hb with hb | hb
  · exact Int.le_trans (h.2.2 b hb a (by simp)) hx
  · rw [List.mem_singleton.1 hb]; exact hx
theorem set_two (A D : List Int) (p q z : Int) : (A ++ p :: q :: D).set (A.length + 1) z = A ++ p :: z :: D := by
  rw [List.set_append_right _ _ (by omega), show A.length + 1 - A.length = 1 by omega]
  rfl
theorem set_one (A D : List Int) (p z : Int) : (A ++ p :: D).set A.length z = A ++ z :: D := by
  rw [List.set_append_right _ _ (by omega), Nat.sub_self]
  rfl
set_option maxHeartbeats 8000000 in
set_option maxRecDepth 100000 in
theorem insort_u16 (g cap : Nat) (xs : List Int) (rest : List Value) (w : World) (R : Row w g (cellsU xs rest) 34) (hl : xs.length ≤ 100000) :
    Calls Tryz.prog 200 #[.slice (some ⟨g, 0, none⟩) xs.length cap, .int .i64 0, .int .i64 (xs.length : Int)] w fun e w' => e = .returned (.tuple #[]) ∧ ∃ ys, ys.Perm xs ∧ ys.Pairwise (· ≤ ·) ∧ Row w' g (cellsU ys rest) 34 ∧ Stored w g w' := by
  have HR := Lib.hid R
  obtain ⟨n, hn⟩ : ∃ n, n = xs.length := ⟨_, rfl⟩
  rw [← hn] at hl ⊢
  have HN := Lib.hid (And.intro hn hl)
  clear R hn hl
  go_enter Tryz.func200, Tryz.ntmps200
  go_wp2_with fail
  go_loopw [6] (fun iv wr => ∃ (i : Nat) (ys : List Int), iv = .int .i64 (i : Int) ∧ 1 ≤ i ∧ i ≤ n + 1 ∧ ys.Perm xs ∧ (ys.take i).Pairwise (· ≤ ·) ∧ Row wr g (cellsU ys rest) 34 ∧ Stored w g wr) (fun iv _ => n + 1 - (intOf iv).toNat)
  case atStart => exact ⟨1, xs, rfl, by omega, by omega, List.Perm.refl _, by cases xs <;> simp, HR.out, Stored.refl _ _⟩
  case round =>
    obtain ⟨i, ys, rfl, hi1, hi2, hpm, hso, RW, ST⟩ := hrel
    have HI := Lib.hid (And.intro hi1 (And.intro hi2 (And.intro hpm hso)))
    have HRW := Lib.hid RW
    have HST := Lib.hid ST
    clear hi1 hi2 hpm hso RW ST HR
    by_cases hlt : i < n
    · have q1 : (i : Int) < (n : Int) := by omega
      have HLT := Lib.hid hlt
      clear hlt
      go_wp2_with fail
      go_loopw [7] (fun jv wr2 => ∃ (A B C : List Int) (x : Int), jv = .int .i64 (A.length : Int) ∧ A.length + B.length = i ∧ A.length + 1 + B.length + C.length = n ∧ (A ++ x :: (B ++ C)).Perm xs ∧ (A ++ B).Pairwise (· ≤ ·) ∧ (∀ b ∈ B, x ≤ b) ∧ Row wr2 g (cellsU (A ++ x :: (B ++ C)) rest) 34 ∧ Stored w g wr2) (fun jv _ => (intOf jv).toNat)
      case atStart =>
        have hh := HI.out
        have hlen : ys.length = n := by rw [hh.2.2.1.length_eq, HN.out.1]
        have hlt := HLT.out
        refine ⟨ys.take i, [], ys.drop (i + 1), ys.getD i 0, by rw [List.length_take, Nat.min_eq_left (by omega)], by rw [List.length_take, Nat.min_eq_left (by omega)]; rfl, by rw [List.length_take, List.length_drop, Nat.min_eq_left (by omega)]; simp; omega, ?_, by rw [List.append_nil]; exact hh.2.2.2, by simp, ?_, HST.out⟩
        all_goals (have e : ys.take i ++ ys.getD i 0 :: ([] ++ ys.drop (i + 1)) = ys := by rw [List.nil_append, List.getD_eq_getElem?_getD, List.getElem?_eq_getElem (by omega)]; simp)
        · rw [e]; exact hh.2.2.1
        · rw [e]; exact HRW.out
      case round =>
        obtain ⟨A, B, C, x, rfl, hab, habc, hpm, hso, hxb, R2, S2⟩ := hrel
        have H2 := Lib.hid (And.intro hab (And.intro habc (And.intro hpm (And.intro hso hxb))))
        have HR2 := Lib.hid R2
        have HS2 := Lib.hid S2
        clear hab habc hpm hso hxb R2 S2 HRW HST
        rcases List.eq_nil_or_concat A with rfl | ⟨A', a, hA⟩
        · rw [show ((([] : List Int).length : Nat) : Int) = 0 from rfl]
          go_wp2_with fail
          refine region_madeR (n := 15) 14 8 (by kernel_rfl) (fun w1 w2 => w2 = w1) (fun w1 => Row w1 g (cellsU ([] ++ x :: (B ++ C)) rest) 34 ∧ Stored w g w1) (fun i w1 v => v = (#[.int .i64 0, .int .i64 0, .bool false, .bool false] : Array Value).getD i undef) (fun c v w1 => v = .bool false ∧ Row w1 g (cellsU ([] ++ x :: (B ++ C)) rest) 34 ∧ Stored w g w1) (by kernel_rfl) (by kernel_rfl) (by kernel_rfl) ⟨HR2.out, stored_dr HS2.out⟩ rfl (fun w1 w2 a e => e ▸ a) (fun i w1 w2 v e h => h) ?_
          intro F Fz hF hFz
          simp only [fill, updV, dstAt] at hF hFz
          simp [Act.put] at hF hFz
          obtain rfl : F = fun c => _ := funext fun c => (hF c).symm
          obtain rfl : Fz = fun c v => _ := funext fun c => funext fun v => (hFz c v).symm
          clear hF hFz
          refine ⟨?_, ?_, ?_⟩
          · intro i op ho n1 c wv S hG
            rcases i with _ | _ | _ | _ | _ | _ | _ | _ | _ | _ | _ | _ | _ | _ | _ | i
            all_goals (first | (exact absurd rfl n1) | (simp at ho; done) | (obtain rfl := Option.some.inj ho))
            · exact yx_val _ rfl (by go_simp) ⟨rfl, rfl⟩
            · exact yx_val _ rfl (by go_simp) ⟨rfl, rfl⟩
            · have g0 : c 0 = .int .i64 0 := hG 0 rfl (by omega)
              have g1 : c 1 = .int .i64 0 := hG 1 rfl (by omega)
              exact yx_val (.bool false) rfl (by simp only [g0, g1]; go_simp) ⟨rfl, rfl⟩
            · have g2 : c 2 = .bool false := hG 2 rfl (by omega)
              exact yx_val (.bool false) rfl (by simp only [g2]; go_simp) ⟨rfl, rfl⟩
            all_goals (have g3 : c 3 = .bool false := hG 3 rfl (by omega); exact .inl ⟨by simp only [g3]; rfl, rfl, rfl⟩)
          · intro op ho c wv S hG
            obtain rfl := Option.some.inj ho
            have g3 : c 3 = .bool false := hG 3 (by omega) (by omega)
            exact yx_val (.bool false) rfl (by simp only [g3]; go_simp) ⟨rfl, S⟩
          · rintro c v wy ⟨rfl, SY⟩
            have ev : IntKind.i64.wrap ((i : Int) + 1) = ((i + 1 : Nat) : Int) := by have := HLT.out; have := HN.out.2; rw [IntKind.wrap_i64]; omega
            go_wp2_with fail
            have h2 := H2.out
            have h3 := HI.out
            have h4 := HLT.out
            refine ⟨⟨i + 1, x :: (B ++ C), by push_cast; rfl, by omega, by omega, h2.2.2.1, ?_, SY.1, SY.2⟩, by simp [intOf]; omega⟩
            have e : (x :: (B ++ C)).take (i + 1) = x :: B := by
              have h5 : B.length = i := by have := h2.1; simpa using this
              rw [List.take_succ_cons, ← h5, List.take_left]
            rw [e]
            have := sorted_in [] B x h2.2.2.2.1 h2.2.2.2.2 (by simp)
            exact this
        · rw [List.concat_eq_append] at hA
          subst hA
          obtain ⟨jm, hjm⟩ : ∃ m, m = A'.length := ⟨_, rfl⟩
          have hL : (A' ++ [a]).length = jm + 1 := by simp [hjm]
          obtain ⟨jj, hjj⟩ : ∃ m, m = jm + 1 := ⟨_, rfl⟩
          have h2 := H2.out
          have hjn : jj < n := by have := h2.2.1; rw [hL] at this; omega
          have hn9 := HN.out.2
          have RW2 := HR2.out
          have e0 : (A' ++ [a]) ++ x :: (B ++ C) = A' ++ a :: x :: (B ++ C) := by simp
          rw [e0] at RW2
          rw [hL, ← hjj]
          have HRW2 := Lib.hid RW2
          have HJ := Lib.hid (And.intro hjm hjj)
          have g1 : (cellsU (A' ++ a :: x :: (B ++ C)) rest)[jj]? = some (.int .u16 x) := by
            rw [cellsU_get _ _ _ (by simp; omega)]
            subst hjj; subst hjm
            simp [List.getD, List.getElem?_append]
          have g2 : (cellsU (A' ++ a :: x :: (B ++ C)) rest)[jm]? = some (.int .u16 a) := by
            rw [cellsU_get _ _ _ (by simp; omega)]
            subst hjm
            simp [List.getD, List.getElem?_append]
          have k0 : (0 : Int) ≤ (jj : Int) := by omega
          have k1 : (jj : Int) < (n : Int) := by omega
          have k2 : (0 : Int) ≤ (jm : Int) := by omega
          have k3 : (jm : Int) < (n : Int) := by omega
          have k4 : IntKind.i64.wrap ((jj : Int) - 1) = (jm : Int) := by rw [IntKind.wrap_i64]; omega
          have k5 : decide ((0 : Int) < (jj : Int)) = true := decide_eq_true (by omega)
          have k6 : decide (0 < jj) = true := decide_eq_true (by omega)
          have d1 : ∀ m : QW (fun w' => Row w' g (cellsU (A' ++ a :: x :: (B ++ C)) rest) 34 ∧ Stored w g w'), m.w.cell? ⟨g, jj, none⟩ = some (.int .u16 x) := fun m => (m.h.1.cell jj).trans g1
          have d2 : ∀ m : QW (fun w' => Row w' g (cellsU (A' ++ a :: x :: (B ++ C)) rest) 34 ∧ Stored w g w'), m.w.cell? ⟨g, jm, none⟩ = some (.int .u16 a) := fun m => (m.h.1.cell jm).trans g2
          have HC1 := Lib.hid (show ∀ m : QW (fun w' => Row w' g (cellsU (A' ++ a :: x :: (B ++ C)) rest) 34 ∧ Stored w g w'), Calls Tryz.prog 206 #[.int .u16 x, .int .u16 a] m.w fun e w'' => e = .returned (.bool (decide (x < a))) ∧ ∃ m2 : QW (fun w' => Row w' g (cellsU (A' ++ a :: x :: (B ++ C)) rest) 34 ∧ Stored w g w'), w'' = m2.w from fun m => (cless_u16 x a m.w).mono fun e w'' ⟨h1, h2⟩ => ⟨h1, m, h2⟩)
          clear hL h2 hjn hn9 RW2 e0 hjm hjj HR2
          go_wp2_with fail
          refine region_quietS (fun w' => Row w' g (cellsU (A' ++ a :: x :: (B ++ C)) rest) 34 ∧ Stored w g w') (by kernel_rfl) (by kernel_rfl) ⟨HRW2.out, stored_dr HS2.out⟩ (fun hne => ?_)
          repeat (go_big_quiet_step (first | (with_reducible exact HC1.out _)))
          refine wpQuiet_nil ?_
          intro _ hw'
          obtain ⟨⟨wy, SY⟩, rfl⟩ := hw'
          clear d1 d2 HC1
          by_cases hxa : x < a
          · have c1 : decide (x < a) = true := decide_eq_true hxa
            have HXA := Lib.hid hxa
            clear hxa
            go_wp2_with fail
            rotate_left
            · rename_i h9
              exact absurd HXA.out (by omega)
            have g1' : (cellsU (A' ++ a :: (if false = true then a else x) :: (B ++ C)) rest)[jj]? = some (.int .u16 x) := g1
            have g2' : ∀ y : Int, (cellsU (A' ++ a :: y :: (B ++ C)) rest)[jm]? = some (.int .u16 a) := fun y => by
              have hj := HJ.out.1
              rw [cellsU_get _ _ _ (by simp; omega)]
              subst hj
              simp [List.getD, List.getElem?_append]
            have g3' : ∀ y : Int, (cellsU (A' ++ a :: y :: (B ++ C)) rest)[jj]? = some (.int .u16 y) := fun y => by
              have hj := HJ.out.1
              have hj2 := HJ.out.2
              rw [cellsU_get _ _ _ (by simp; omega)]
              subst hj2; subst hj
              simp [List.getD, List.getElem?_append]
            clear g1 g2 k5 k6 c1
            refine region_madeS (n := 18) 17 12 (by kernel_rfl) (fun w1 w2 => True) (fun L w1 => Row w1 g (cellsU (A' ++ a :: (if L 15 = true then a else x) :: (B ++ C)) rest) 34 ∧ Stored w g w1) (fun i w1 v => if i = 15 then True else v = (#[.slice (some ⟨g, 0, none⟩) n cap, .int .i64 (jj : Int), .slice (some ⟨g, 0, none⟩) n cap, .int .i64 (jj : Int), .int .i64 (jm : Int), .slice (some ⟨g, 0, none⟩) n cap, .int .i64 (jj : Int), .int .i64 (jm : Int), .pointer (some ⟨g, jm, none⟩), .int .u16 a, .slice (some ⟨g, 0, none⟩) n cap, .int .i64 (jj : Int), .pointer (some ⟨g, jj, none⟩), .int .u16 x, .pointer (some ⟨g, jj, none⟩), undef, .pointer (some ⟨g, jm, none⟩)] : Array Value).getD i undef) (fun c v w1 => Row w1 g (cellsU (A' ++ x :: a :: (B ++ C)) rest) 34 ∧ Stored w g w1) (by kernel_rfl) (by kernel_rfl) (by kernel_rfl) ⟨SY.1, stored_dr SY.2⟩ rfl (fun i w1 w2 v e h => h) ?_
            intro F Fz hF hFz
            simp only [fill, updV, dstAt] at hF hFz
            simp [Act.put] at hF hFz
            obtain rfl : F = fun c => _ := funext fun c => (hF c).symm
            obtain rfl : Fz = fun c v => _ := funext fun c => funext fun v => (hFz c v).symm
            clear hF hFz
            refine ⟨?_, ?_, ?_⟩
            · rintro i op ho n1 c wv L hLi hW ⟨RV, SV⟩ hG
              have RVV := RV
              rcases i with _ | _ | _ | _ | _ | _ | _ | _ | _ | _ | _ | _ | _ | _ | _ | _ | _ | _ | i
              all_goals (first | (exact absurd rfl n1) | (simp at ho; done) | (obtain rfl := Option.some.inj ho))
              · exact yx_val (.slice (some ⟨g, 0, none⟩) n cap) rfl (by go_simp) ⟨trivial, rfl, by simpa [Upd] using RVV, SV⟩
              · exact yx_val (.int .i64 (jj : Int)) rfl (by go_simp) ⟨trivial, rfl, by simpa [Upd] using RVV, SV⟩
              · exact yx_val (.slice (some ⟨g, 0, none⟩) n cap) rfl (by go_simp) ⟨trivial, rfl, by simpa [Upd] using RVV, SV⟩
              · exact yx_val (.int .i64 (jj : Int)) rfl (by go_simp) ⟨trivial, rfl, by simpa [Upd] using RVV, SV⟩
              · have g3 : c 3 = .int .i64 (jj : Int) := hG 3 rfl (by omega)
                exact yx_val (.int .i64 (jm : Int)) rfl (by simp only [g3]; go_simp) ⟨trivial, rfl, by simpa [Upd] using RVV, SV⟩
              · exact yx_val (.slice (some ⟨g, 0, none⟩) n cap) rfl (by go_simp) ⟨trivial, rfl, by simpa [Upd] using RVV, SV⟩
              · exact yx_val (.int .i64 (jj : Int)) rfl (by go_simp) ⟨trivial, rfl, by simpa [Upd] using RVV, SV⟩
              · have g6 : c 6 = .int .i64 (jj : Int) := hG 6 rfl (by omega)
                exact yx_val (.int .i64 (jm : Int)) rfl (by simp only [g6]; go_simp) ⟨trivial, rfl, by simpa [Upd] using RVV, SV⟩
              · have g5 : c 5 = .slice (some ⟨g, 0, none⟩) n cap := hG 5 rfl (by omega)
                have g7 : c 7 = .int .i64 (jm : Int) := hG 7 rfl (by omega)
                exact yx_val (.pointer (some ⟨g, jm, none⟩)) rfl (by simp only [g5, g7]; go_simp) ⟨trivial, rfl, by simpa [Upd] using RVV, SV⟩
              · have g8 : c 8 = .pointer (some ⟨g, jm, none⟩) := hG 8 rfl (by omega)
                have v1 : wv.cell? ⟨g, jm, none⟩ = some (.int .u16 a) := (RV.cell jm).trans (g2' _)
                exact yx_val (.int .u16 a) rfl (by simp only [g8]; go_simp) ⟨trivial, rfl, by simpa [Upd] using RVV, SV⟩
              · exact yx_val (.slice (some ⟨g, 0, none⟩) n cap) rfl (by go_simp) ⟨trivial, rfl, by simpa [Upd] using RVV, SV⟩
              · exact yx_val (.int .i64 (jj : Int)) rfl (by go_simp) ⟨trivial, rfl, by simpa [Upd] using RVV, SV⟩
              · have g10 : c 10 = .slice (some ⟨g, 0, none⟩) n cap := hG 10 rfl (by omega)
                have g11 : c 11 = .int .i64 (jj : Int) := hG 11 rfl (by omega)
                exact yx_val (.pointer (some ⟨g, jj, none⟩)) rfl (by simp only [g10, g11]; go_simp) ⟨trivial, rfl, by simpa [Upd] using RVV, SV⟩
              · have g12 : c 12 = .pointer (some ⟨g, jj, none⟩) := hG 12 rfl (by omega)
                have l15 := hW 15 (by omega) (by kernel_rfl)
                rw [l15] at RV
                have v1 : wv.cell? ⟨g, jj, none⟩ = some (.int .u16 x) := (RV.cell jj).trans g1'
                exact yx_val (.int .u16 x) rfl (by simp only [g12]; go_simp) ⟨trivial, rfl, by simpa [Upd] using RVV, SV⟩
              · have g0 : c 0 = .slice (some ⟨g, 0, none⟩) n cap := hG 0 rfl (by omega)
                have g1 : c 1 = .int .i64 (jj : Int) := hG 1 rfl (by omega)
                exact yx_val (.pointer (some ⟨g, jj, none⟩)) rfl (by simp only [g0, g1]; go_simp) ⟨trivial, rfl, by simpa [Upd] using RVV, SV⟩
              · have g14 : c 14 = .pointer (some ⟨g, jj, none⟩) := hG 14 rfl (by omega)
                have g9 : c 9 = .int .u16 a := hG 9 rfl (by omega)
                have v1 : wv.cell? ⟨g, jj, none⟩ = some (.int .u16 (if L 15 = true then a else x)) := (RV.cell jj).trans (g3' _)
                have fz : wv.frozen? ⟨g, jj, none⟩ = false := RV.frozen jj
                have RN : Row (wv.setCell ⟨g, jj, none⟩ (.int .u16 a)) g (cellsU (A' ++ a :: a :: (B ++ C)) rest) 34 := by
                  have h := RV.set jj (.int .u16 a)
                  rw [cellsU_set _ _ _ _ (by simp; have := HJ.out; omega)] at h
                  have e : (A' ++ a :: (if L 15 = true then a else x) :: (B ++ C)).set jj a = A' ++ a :: a :: (B ++ C) := by rw [HJ.out.2, HJ.out.1]; exact set_two A' (B ++ C) a _ a
                  rwa [e] at h
                generalize (if L 15 = true then a else x) = y at v1
                exact yx_skip (wv.setCell ⟨g, jj, none⟩ (.int .u16 a)) rfl (by simp only [g14, g9]; go_simp) ⟨trivial, trivial, by simpa [Upd] using RN, SV.trans (stored_setCell _ _ _ _)⟩
              · have g2 : c 2 = .slice (some ⟨g, 0, none⟩) n cap := hG 2 rfl (by omega)
                have g4 : c 4 = .int .i64 (jm : Int) := hG 4 rfl (by omega)
                exact yx_val (.pointer (some ⟨g, jm, none⟩)) rfl (by simp only [g2, g4]; go_simp) ⟨trivial, rfl, by simpa [Upd] using RVV, SV⟩
            · rintro op ho c wv L hLall ⟨RV, SV⟩ hG
              obtain rfl := Option.some.inj ho
              have g16 : c 16 = .pointer (some ⟨g, jm, none⟩) := hG 16 (by omega) (by omega)
              have g13 : c 13 = .int .u16 x := hG 13 (by omega) (by omega)
              rw [hLall 15 (by omega) (by omega), if_pos rfl] at RV
              have v1 : wv.cell? ⟨g, jm, none⟩ = some (.int .u16 a) := (RV.cell jm).trans (g2' _)
              have fz : wv.frozen? ⟨g, jm, none⟩ = false := RV.frozen jm
              have RN : Row (wv.setCell ⟨g, jm, none⟩ (.int .u16 x)) g (cellsU (A' ++ x :: a :: (B ++ C)) rest) 34 := by
                have h := RV.set jm (.int .u16 x)
                rw [cellsU_set _ _ _ _ (by simp; have := HJ.out; omega)] at h
                have e : (A' ++ a :: a :: (B ++ C)).set jm x = A' ++ x :: a :: (B ++ C) := by rw [HJ.out.1]; exact set_one A' (a :: (B ++ C)) a x
                rwa [e] at h
              exact yx_skip (wv.setCell ⟨g, jm, none⟩ (.int .u16 x)) rfl (by simp only [g16, g13]; go_simp) ⟨RN, SV.trans (stored_setCell _ _ _ _)⟩
            · rintro c v wz ⟨RZ, SZ⟩
              go_wp2_with fail
              have h2 := H2.out
              have hj := HJ.out
              have hx := HXA.out
              have e0 : A' ++ x :: a :: (B ++ C) = A' ++ x :: ((a :: B) ++ C) := by simp
              rw [e0] at RZ
              refine ⟨⟨A', a :: B, C, x, by rw [hj.1], ?_, ?_, ?_, ?_, ?_, RZ, SZ⟩, by simp [intOf]; omega⟩
              · have := h2.1; simp at this ⊢; omega
              · have := h2.2.1; simp at this ⊢; omega
              · refine List.Perm.trans ?_ h2.2.2.1
                have e1 : (A' ++ [a]) ++ x :: (B ++ C) = A' ++ (a :: x :: (B ++ C)) := by simp
                rw [e1]
                exact List.Perm.append_left A' (List.Perm.swap a x (B ++ C))
              · have := h2.2.2.2.1
                simpa using this
              · intro b hb
                rcases List.mem_cons.1 hb with rfl | hb
                · omega
                · exact h2.2.2.2.2 b hb
          · have c1 : decide (x < a) = false := decide_eq_false hxa
            have HXA := Lib.hid hxa
            clear hxa
            have ev : IntKind.i64.wrap ((i : Int) + 1) = ((i + 1 : Nat) : Int) := by have := HLT.out; have := HN.out.2; rw [IntKind.wrap_i64]; omega
            go_wp2_with fail
            have h2 := H2.out
            have h3 := HI.out
            have h4 := HLT.out
            have e0 : (A' ++ [a]) ++ x :: (B ++ C) = A' ++ a :: x :: (B ++ C) := by simp
            refine ⟨⟨i + 1, A' ++ a :: x :: (B ++ C), by push_cast; rfl, by omega, by omega, by rw [← e0]; exact h2.2.2.1, ?_, SY.1, SY.2⟩, by simp [intOf]; omega⟩
            have e : (A' ++ a :: x :: (B ++ C)).take (i + 1) = (A' ++ [a]) ++ x :: B := by
              have h5 : ((A' ++ [a]) ++ x :: B).length = i + 1 := by have := h2.1; rw [List.length_append, List.length_cons]; omega
              have h6 : A' ++ a :: x :: (B ++ C) = ((A' ++ [a]) ++ x :: B) ++ C := by simp
              rw [h6, ← h5, List.take_left]
            rw [e]
            exact sorted_in _ B x h2.2.2.2.1 h2.2.2.2.2 (last_le A' a x (List.pairwise_append.1 h2.2.2.2.1).1 (by have := HXA.out; omega))
    · have q1 : ¬ (i : Int) < (n : Int) := by omega
      have HLT := Lib.hid hlt
      clear hlt
      go_wp2_with fail
      go_end0
      have hh := HI.out
      have hlen : ys.length = n := by rw [hh.2.2.1.length_eq, HN.out.1]
      refine ⟨rfl, ys, hh.2.2.1, ?_, HRW.out, HST.out⟩
      have := hh.2.2.2
      rwa [List.take_of_length_le (by have := HLT.out; omega)] at this
theorem pdq_u16 (g cap lim : Nat) (xs : List Int) (rest : List Value) (w : World) (R : Row w g (cellsU xs rest) 34) (hl : xs.length ≤ 12) :
    Calls Tryz.prog 166 #[.slice (some ⟨g, 0, none⟩) xs.length cap, .int .i64 0, .int .i64 (xs.length : Int), .int .i64 (lim : Int)] w fun e w' => e = .returned (.tuple #[]) ∧ ∃ ys, ys.Perm xs ∧ ys.Pairwise (· ≤ ·) ∧ Row w' g (cellsU ys rest) 34 ∧ Stored w g w' := by
  have HI := Lib.hid (insort_u16 g cap xs rest w R (by omega))
  generalize xs.length = n at *
  have k1 : (n : Int) ≤ 12 := by omega
  have e1 : IntKind.i64.wrap (n : Int) = (n : Int) := by rw [IntKind.wrap_i64]; omega
  have e2 : IntKind.i64.wrap ((n : Int) - 0) = (n : Int) := by rw [IntKind.wrap_i64]; omega
  clear R hl
  go_enter Tryz.func166, Tryz.ntmps166
  go_wp2_with fail
  refine wp_loop_rounds 1 ?_
  rw [rounds_succ]
  go_wp2_with fail
  refine HI.out.mono ?_
  rintro _ w1 ⟨rfl, hb⟩
  go_wp2_with fail
  exact bodyPost_ret (results_none rfl _ _ _) rfl ⟨rfl, hb⟩
end Go.Proofs.YtbhjkddjgikaiaaGreatDoor

namespace Go.Proofs.YtbhjkddjgikaiaaGreatDoor
open Go.RowKit
set_option linter.unusedVariables false
set_option linter.unusedSimpArgs false
def lenB (n : Nat) : Nat := if n = 0 then 0 else if n = 1 then 1 else if n ≤ 3 then 2 else if n ≤ 7 then 3 else 4
theorem bits64_small (n : Nat) (h : n ≤ 8) (w : World) : Calls Tryz.prog 195 #[.int .u64 (n : Int)] w fun e w' => e = .returned (.int .i64 (lenB n : Int)) ∧ w' = w := by
  have hm : n = 0 ∨ n = 1 ∨ n = 2 ∨ n = 3 ∨ n = 4 ∨ n = 5 ∨ n = 6 ∨ n = 7 ∨ n = 8 := by omega
  rcases hm with rfl | rfl | rfl | rfl | rfl | rfl | rfl | rfl | rfl
  all_goals (go_enter Tryz.func195, Tryz.ntmps195; go_wp2)
  · exact bodyPost_ret (v := .int .i64 0) (by simp [results, Tryz.results195, go_sem]; decide +kernel) rfl ⟨rfl, rfl⟩
  · exact bodyPost_ret (v := .int .i64 1) (by simp [results, Tryz.results195, go_sem]; decide +kernel) rfl ⟨rfl, rfl⟩
  · exact bodyPost_ret (v := .int .i64 2) (by simp [results, Tryz.results195, go_sem]; decide +kernel) rfl ⟨rfl, rfl⟩
  · exact bodyPost_ret (v := .int .i64 2) (by simp [results, Tryz.results195, go_sem]; decide +kernel) rfl ⟨rfl, rfl⟩
  · exact bodyPost_ret (v := .int .i64 3) (by simp [results, Tryz.results195, go_sem]; decide +kernel) rfl ⟨rfl, rfl⟩
  · exact bodyPost_ret (v := .int .i64 3) (by simp [results, Tryz.results195, go_sem]; decide +kernel) rfl ⟨rfl, rfl⟩
  · exact bodyPost_ret (v := .int .i64 3) (by simp [results, Tryz.results195, go_sem]; decide +kernel) rfl ⟨rfl, rfl⟩
  · exact bodyPost_ret (v := .int .i64 3) (by simp [results, Tryz.results195, go_sem]; decide +kernel) rfl ⟨rfl, rfl⟩
  · exact bodyPost_ret (v := .int .i64 4) (by simp [results, Tryz.results195, go_sem]; decide +kernel) rfl ⟨rfl, rfl⟩
theorem bits_small (n : Nat) (h : n ≤ 8) (w : World) : Calls Tryz.prog 167 #[.int .u64 (n : Int)] w fun e w' => e = .returned (.int .i64 (lenB n : Int)) ∧ w' = w := by
  have HB := Lib.hid (bits64_small n h)
  clear h
  go_enter Tryz.func167, Tryz.ntmps167
  go_wp2_with fail
  refine (HB.out w).mono ?_
  rintro _ _ ⟨rfl, rfl⟩
  go_wp2_with fail
  exact bodyPost_ret (v := .int .i64 (lenB n : Int)) (by simp [results, Tryz.results167, go_sem]) rfl ⟨rfl, rfl⟩
theorem sort_u16 (g cap : Nat) (xs : List Int) (rest : List Value) (w : World) (R : Row w g (cellsU xs rest) 34) (hl : xs.length ≤ 8) :
    Calls Tryz.prog 119 #[.slice (some ⟨g, 0, none⟩) xs.length cap] w fun e w' => e = .returned (.tuple #[]) ∧ ∃ ys, ys.Perm xs ∧ ys.Pairwise (· ≤ ·) ∧ Row w' g (cellsU ys rest) 34 ∧ Stored w g w' := by
  have HP := Lib.hid (fun (lim : Nat) => pdq_u16 g cap lim xs rest w R (by omega))
  have HB := Lib.hid (bits_small xs.length hl)
  generalize xs.length = n at *
  have e1 : IntKind.u64.wrap (n : Int) = (n : Int) := by rw [IntKind.wrap_u64]; omega
  clear R hl
  go_enter Tryz.func119, Tryz.ntmps119
  go_wp2_with fail
  refine (HB.out w).mono ?_
  rintro _ w0 ⟨rfl, rfl⟩
  go_wp2_with fail
  refine (HP.out (lenB n)).mono ?_
  rintro _ w1 ⟨rfl, hb⟩
  go_wp2_with fail
  go_end0
  exact ⟨rfl, hb⟩
end Go.Proofs.YtbhjkddjgikaiaaGreatDoor
