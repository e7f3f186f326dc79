/-
  Own texts, several in one (Awake6, With, Awake8).
-/
import Derived.Test.YtbhjkddjgikaiaaGreatDoorMrg15
import Derived.Test.YtbhjkddjgikaiaaGreatDoorMrg14
import Derived.Test.YtbhjkddjgikaiaaGreatDoorMrg13
import Derived.Shelf.SlicesE.Clone
import Derived.Maps.AppendAt
namespace Go.Proofs.YtbhjkddjgikaiaaGreatDoor
open Go.RowKit
set_option linter.unusedVariables false
set_option linter.unusedSimpArgs false

theorem credit_3 (w : World) : Calls Tryz.prog 276 #[.int .u8 3] w fun e w' => e = .returned (.bool true) ∧ w' = w := by
  go_enter Tryz.func276, Tryz.ntmps276
  go_wp2
  go_ret
  exact ⟨rfl, rfl⟩
theorem flow_0 (w : World) : Calls Tryz.prog 277 #[.int .u8 0] w fun e w' => e = .returned (.bool false) ∧ w' = w := by
  go_enter Tryz.func277, Tryz.ntmps277
  go_wp2
  go_ret
  exact ⟨rfl, rfl⟩
def l6 : List Ac := [⟨1, ⟨#[97]⟩, 0, 0⟩, ⟨2, ⟨#[98]⟩, 0, 1⟩]
theorem way6 : wayO l6 13 (getC l6 2) = [2, 1] := by
  rfl
theorem rise6 : AcRise l6 := by
  intro i j hij hj
  have : j < 2 := hj
  obtain rfl : i = 0 := by omega
  obtain rfl : j = 1 := by omega
  show 1 < 2
  omega
set_option maxHeartbeats 1000000 in
theorem awake6 (w : World) (hG : Glb5 w) : Calls Tryz.prog 272 #[] w fun e w' => e = .returned (.bool true) ∧ Below w.heap.size w w' := by
  have HG := Lib.hid hG
  clear hG
  go_enter Tryz.func272, Tryz.ntmps272
  go_wp2_with fail
  have R := Row.new w #[.int .u32 1, .string ⟨#[97]⟩, .int .u8 0, .int .u32 0, .int .u32 2, .string ⟨#[98]⟩, .int .u8 0, .int .u32 1] 80
  have HB := Lib.hid (below_alloc (Below.refl _ w) (.cells #[.int .u32 1, .string ⟨#[97]⟩, .int .u8 0, .int .u32 0, .int .u32 2, .string ⟨#[98]⟩, .int .u8 0, .int .u32 1] 80))
  obtain ⟨g, hg⟩ : ∃ g, g = w.heap.size := ⟨_, rfl⟩
  rw [← hg] at R ⊢
  clear hg
  generalize w.alloc (.cells #[.int .u32 1, .string ⟨#[97]⟩, .int .u8 0, .int .u32 0, .int .u32 2, .string ⟨#[98]⟩, .int .u8 0, .int .u32 1] 80) = w1 at *
  have hE : ElsAt ac 4 ac0 w1 (some ⟨g, 0, none⟩) l6 := .inr ⟨g, 0, rfl, fun i hi => by
    have hi : i < 2 := hi
    intro j v hv
    have hj : j < 4 := by
      by_cases c : j < 4
      · exact c
      · rw [List.getElem?_eq_none (by show 4 ≤ j; omega)] at hv; cases hv
    rw [R.cell]
    rcases i with _ | _ | i
    · rcases j with _ | _ | _ | _ | j
      · exact hv
      · exact hv
      · exact hv
      · exact hv
      · omega
    · rcases j with _ | _ | _ | _ | j
      · exact hv
      · exact hv
      · exact hv
      · exact hv
      · omega
    · omega⟩
  refine (way_any (some ⟨g, 0, none⟩) 2 l6 2 w1 hE (by show 2 ≤ 1000000; omega) rise6).mono ?_
  rintro _ w2 ⟨v, rfl, ho, hb⟩
  rw [way6] at ho
  have hN : NsAt .u32 w2 v [2, 1] := (NsAt.of_own (l := [2, 1]) ho).1
  have HB2 := Lib.hid (below_then HB.out hb)
  clear hb ho hE R
  go_wp2_with fail
  have R7 := Row.new w2 #[.int .u32 2, .int .u32 1] 41
  have B7 := below_alloc (Below.refl _ w2) (.cells #[.int .u32 2, .int .u32 1] 41)
  have hN2 : NsAt .u32 (w2.alloc (.cells #[.int .u32 2, .int .u32 1] 41)) (.slice (some ⟨w2.heap.size, 0, none⟩) 2 2) [2, 1] := NsAt.of_row (l := [2, 1]) R7
  have HE := Lib.hid (equal_u32 _ _ [2, 1] _ (hN.below B7) hN2 (by show 2 ≤ 1000000; omega))
  have HB3 := Lib.hid (below_then HB2.out B7)
  clear R7 B7 hN hN2
  refine HE.out.mono ?_
  rintro _ w3 ⟨rfl, hb3⟩
  have HB4 := Lib.hid (below_then HB3.out hb3)
  clear hb3 HE HB3
  go_wp2_with fail
  refine (credit_3 w3).mono ?_
  rintro _ _ ⟨rfl, rfl⟩
  go_wp2_with fail
  refine (flow_0 _).mono ?_
  rintro _ _ ⟨rfl, rfl⟩
  go_wp2_with fail
  refine (awake5 _ (HG.out.below HB4.out)).mono ?_
  rintro _ w5 ⟨rfl, hb5⟩
  go_wp2
  go_ret
  exact ⟨rfl, below_then HB4.out hb5⟩
end Go.Proofs.YtbhjkddjgikaiaaGreatDoor

namespace Go.Proofs.YtbhjkddjgikaiaaGreatDoor
open Go.RowKit
set_option linter.unusedVariables false
set_option linter.unusedSimpArgs false

def renU : Go.Shelf.Ren := ⟨fun | 41 => 169 | n => n, fun | 22 => 65 | 23 => 34 | 4 => 4 | n => n, fun | n => n⟩
theorem laysU : SlLaysE0.n41 Tryz.prog renU := {
  mixed := by kernel_rfl
  f41 := ⟨Tryz.f169.name, by decide, Tryz.func169.trans (congrArg some (by kernel_rfl))⟩
  t4 := Tryz.underlying4
  a4 := Tryz.isAgg4
  z4 := Tryz.sizeOf4
  v4 := Tryz.zeroValue4
  t22 := Tryz.underlying65
  a22 := Tryz.isAgg65
  z22 := Tryz.sizeOf65
  v22 := Tryz.zeroValue65 }
theorem info_u16 : ∃ i, Tryz.prog.info? 34 = some i ∧ i.zero = some (.int .u16 0) ∧ i.size = 1 ∧ i.bytes = 2 := by
  have h : (Tryz.prog.info? 34).map (fun i => (i.zero, i.size, i.bytes)) = some (some (.int .u16 0), 1, 2) := by kernel_rfl
  obtain ⟨i, hi, h⟩ := Option.map_eq_some_iff.1 h
  simp only [Prod.mk.injEq] at h
  exact ⟨i, hi, h.1, h.2.1, h.2.2⟩
theorem NsAt.cells {k : IntKind} {w : World} {b off n c : Nat} {xs : List Int} (hl : xs.length = n) (h : ∀ i, i < xs.length → w.cell? ⟨b, off + i, none⟩ = some (.int k (xs.getD i 0))) : ∀ j u, (nv k xs)[j]? = some u → w.cell? ⟨b, off + j, none⟩ = some u := by
  intro j u hj
  unfold nv at hj
  rw [List.getElem?_map] at hj
  obtain ⟨z, hz, rfl⟩ := Option.map_eq_some_iff.1 hj
  have hlt : j < xs.length := (List.getElem?_eq_some_iff.1 hz).1
  have := h j hlt
  rwa [List.getD_eq_getElem?_getD, hz] at this
theorem clone_u16 (b off n c : Nat) (xs : List Int) (w : World) (h : ∀ i, i < xs.length → w.cell? ⟨b, off + i, none⟩ = some (.int .u16 (xs.getD i 0))) (hl : xs.length = n) (hn : n ≤ 100000) :
    Calls Tryz.prog 169 #[.slice (some ⟨b, off, none⟩) n c] w fun e w' => ∃ v, e = .returned v ∧ w'.ownsRow w.heap.size 34 1 v n (nv .u16 xs) ∧ Below w.heap.size w w' := by
  obtain ⟨i, hi, h1, h2, h3⟩ := info_u16
  have z : ∀ w, (Go.sizeOf 34).run Tryz.prog w = .ok 1 w := fun w => by kernel_rfl
  refine (AnyE.slices_Clone laysU i (.int .u16 0) 1 2 hi h1 h2 h3 rfl (by omega) z b off n c (nv .u16 xs) w (by rw [nv_len, hl, Nat.mul_one]) (by unfold maxLen; omega) (by omega) (NsAt.cells (n := n) (c := c) hl h) (nv_one _ _)).mono ?_
  rintro e w' ⟨v, rfl, ho, _, hb⟩
  exact ⟨v, rfl, ho, hb⟩
theorem ownMono {w : World} {B B' : Nat} {e : TypeId} {size n : Nat} {v : Value} {xs : List Value} (h : w.ownsRow B e size v n xs) (hb : B' ≤ B) : w.ownsRow B' e size v n xs := by
  obtain ⟨h1, h2⟩ := h
  refine ⟨h1, ?_⟩
  rcases h2 with h2 | ⟨g, cap, cur, e1, e2, e3⟩
  · exact .inl h2
  · exact .inr ⟨g, cap, cur, e1, Nat.le_trans hb e2, e3⟩
/-- an own row as it lies -/
theorem insert_own (B n p vb : Nat) (v : Value) (xs : List Int) (x : Int) (w : World) (hown : w.ownsRow B 34 1 v n (nv .u16 xs)) (RV : Row w vb #[.int .u16 x] 34) (hne : v.ownBlock ≠ some vb) (hB : B ≤ w.heap.size) (hp : p < n) (hn : n ≤ 100000) :
    Calls Tryz.prog 172 #[v, .int .i64 (p : Int), .slice (some ⟨vb, 0, none⟩) 1 1] w fun e w' => ∃ v', e = .returned v' ∧ w'.ownsRow B 34 1 v' (n + 1) (nv .u16 (xs.take p ++ x :: xs.drop p)) ∧ Below B w w' := by
  obtain ⟨h1, h2⟩ := hown
  have hl : xs.length = n := by rw [nv_len, Nat.mul_one] at h1; exact h1
  rcases h2 with ⟨rfl, rfl⟩ | ⟨g, cap, cur, rfl, hg, hh, hc, hm, hs, ht⟩
  · omega
  · rw [Nat.mul_one] at hs ht
    have hvg : vb ≠ g := fun e => hne (by rw [e]; rfl)
    by_cases hr : n + 1 ≤ cap
    · exact insert_room B g cap n p vb cur xs x w hh RV hvg hg hl hp hr ⟨hm, hn⟩ hs ht
    · obtain rfl : cap = n := by omega
      exact insert_grow B g cap p vb cur xs x w hh RV hvg hB hl hp hn hs (by rw [← ht, List.take_of_length_le (by rw [Array.length_toList]; omega)])
theorem append_two {P : Program} {t t2 e e2 : TypeId} (ht : P.underlying t = some (.slice e)) (ht2 : P.underlying t2 = some (.slice e2)) (ty : TypeId) (s x : Value) (w : World) : (Builtin.append_ #[t, t2] ty #[s, x]).run P w = (Builtin.append_ #[t, t] ty #[s, x]).run P w := by
  simp only [Builtin.append_]
  cases s <;> simp [run_underlying ht, run_underlying ht2]
set_option maxHeartbeats 4000000 in
set_option maxRecDepth 100000 in
/-- at the end -/
theorem insert_end (B n vb : Nat) (v : Value) (xs : List Int) (x : Int) (w : World) (hown : w.ownsRow B 34 1 v n (nv .u16 xs)) (RV : Row w vb #[.int .u16 x] 34) (hB : B ≤ w.heap.size) (hn : n ≤ 100000) :
    Calls Tryz.prog 172 #[v, .int .i64 (n : Int), .slice (some ⟨vb, 0, none⟩) 1 1] w fun e w' => ∃ v', e = .returned v' ∧ w'.ownsRow B 34 1 v' (n + 1) (nv .u16 (xs ++ [x])) ∧ Below B w w' := by
  obtain ⟨i, hi, h1, h2, h3⟩ := info_u16
  obtain ⟨p, c, rfl⟩ := own_slice hown
  have hnc : n ≤ c := by
    rcases hown.2 with ⟨e, hz⟩ | ⟨g, cap, cur, e, _, _, h, _⟩
    · omega
    · injection e with _ _ e3
      rw [e3]; exact h
  have hadd := addr_add vb 0
  obtain ⟨v', w', hr, k2, k3, k4, k5⟩ := run_append_own_at (P := Tryz.prog) w B 65 65 34 i (.int .u16 0) 1 2 Tryz.underlying65 hi h1 h2 h3 rfl (by omega) (.slice p n c) n (nv .u16 xs) hown ⟨vb, 0, none⟩ 1 1 [.int .u16 x] rfl (fun j u hj => by rw [hadd, Nat.zero_add, RV.cell j]; simpa using hj) (by simp [Value.oneCell']) (by unfold maxLen; omega) (by omega) hB
  have HK := Lib.hid k2
  have HR := Lib.hid hr
  have HB := Lib.hid ((Below.refl B w).grown k3 hB (fun k hk => (ownW_lt hown hk).1))
  have HN := Lib.hid hn
  have e1 : (0 : Int) ≤ (n : Int) := by omega
  have e2 : (n : Int) ≤ (c : Int) := by omega
  clear hr k2 k3 k4 k5 hn hown RV hi h1 h2 h3 hadd hB
  have hr2 : ∀ ty, (Builtin.append_ #[65, 59] ty #[.slice p n c, .slice (some ⟨vb, 0, none⟩) 1 1]).run Tryz.prog w = .ok v' w' := fun ty => by
    rw [append_two Tryz.underlying65 Tryz.underlying59]
    exact HR.out
  have HR2 := Lib.hid hr2
  clear hr2 HR
  have n1 : n ≤ c := hnc
  cases p with
  | none =>
    go_enter Tryz.func172, Tryz.ntmps172
    go_wp2_with (first | (at_builtin; refine ev_run rfl (run_app_op _ _ _ _ rfl rfl rfl (HR2.out _)) ?_))
    go_ret
    exact ⟨_, rfl, by rw [show nv .u16 (xs ++ [x]) = nv .u16 xs ++ [.int .u16 x] by simp [nv]]; exact HK.out, HB.out⟩
  | some a =>
    go_enter Tryz.func172, Tryz.ntmps172
    go_wp2_with (first | (at_builtin; refine ev_run rfl (run_app_op _ _ _ _ rfl rfl rfl (HR2.out _)) ?_))
    all_goals go_ret
    all_goals exact ⟨_, rfl, by rw [show nv .u16 (xs ++ [x]) = nv .u16 xs ++ [.int .u16 x] by simp [nv]]; exact HK.out, HB.out⟩
theorem notmem_own {w : World} {B n size g : Nat} {e : TypeId} {v : Value} {xs : List Value} (h : w.ownsRow B e size v n xs) (hg : w.heap.size ≤ g) : v.ownBlock ≠ some g := fun e => by
  have := (ownW_lt h e).2
  omega
set_option maxHeartbeats 1000000 in
theorem with_new (b off c p : Nat) (xs : List Int) (x : Int) (w : World) (hx : ∀ i, i < xs.length → w.cell? ⟨b, off + i, none⟩ = some (.int .u16 (xs.getD i 0))) (hn : xs.length ≤ 100000) (hp : PosN xs x p) (hno : ¬ (p < xs.length ∧ xs.getD p 0 = x)) :
    Calls Tryz.prog 122 #[.slice (some ⟨b, off, none⟩) xs.length c, .int .u16 x] w fun e w' => ∃ v', e = .returned v' ∧ w'.ownsRow w.heap.size 34 1 v' (xs.length + 1) (nv .u16 (xs.take p ++ x :: xs.drop p)) ∧ Below w.heap.size w w' := by
  have HS := Lib.hid (search_u16 (.slice (some ⟨b, off, none⟩) xs.length c) xs x p w ⟨_, c, rfl, .inr ⟨b, off, rfl, hx⟩⟩ (by omega) hp)
  have e0 : (decide (p < xs.length) && decide (xs.getD p 0 = x)) = false := by rw [← Bool.decide_and]; exact decide_eq_false hno
  rw [e0] at HS
  have HX := Lib.hid hx
  have HN := Lib.hid hn
  have HP := Lib.hid hp.1
  clear hx hn hp hno e0
  go_enter Tryz.func122, Tryz.ntmps122
  go_wp2_with fail
  refine HS.out.mono ?_
  rintro _ w1 ⟨rfl, hb⟩
  have HB1 := Lib.hid hb
  clear hb HS
  go_wp2_with fail
  refine (clone_u16 b off xs.length c xs w1 (fun i hi => cell_then (HX.out i hi) HB1.out) rfl HN.out).mono ?_
  rintro _ w2 ⟨v, rfl, ho, hb⟩
  have HB2 := Lib.hid (below_then HB1.out hb)
  have HO := Lib.hid (ownMono ho HB1.out.size)
  clear hb ho
  go_wp2_with fail
  have RV := Row.new w2 #[.int .u16 x] 34
  have B3 := below_alloc (Below.refl _ w2) (.cells #[.int .u16 x] 34)
  have ho3 := ownW_below HO.out B3
  have hne := notmem_own HO.out (Nat.le_refl w2.heap.size)
  have HB3 := Lib.hid (below_then HB2.out B3)
  obtain ⟨vb, hvb⟩ : ∃ g, g = w2.heap.size := ⟨_, rfl⟩
  rw [← hvb] at RV hne
  rw [← hvb]
  clear hvb B3
  generalize w2.alloc (.cells #[.int .u16 x] 34) = w3 at *
  by_cases hpn : p < xs.length
  · have HI := Lib.hid (insert_own w.heap.size xs.length p vb v xs x w3 ho3 RV hne HB3.out.size hpn HN.out)
    clear ho3 RV hne hpn
    refine HI.out.mono ?_
    rintro _ w4 ⟨v4, rfl, ho4, hb4⟩
    go_wp2
    go_ret
    exact ⟨_, rfl, ho4, HB3.out.trans hb4⟩
  · obtain rfl : p = xs.length := by have := HP.out; omega
    have HI := Lib.hid (insert_end w.heap.size xs.length vb v xs x w3 ho3 RV HB3.out.size HN.out)
    have e1 : xs.take xs.length ++ x :: xs.drop xs.length = xs ++ [x] := by rw [List.take_length, List.drop_length]
    have E1 := Lib.hid e1
    clear ho3 RV hne hpn e1
    refine HI.out.mono ?_
    rintro _ w4 ⟨v4, rfl, ho4, hb4⟩
    go_wp2
    go_ret
    exact ⟨_, rfl, by rw [E1.out]; exact ho4, HB3.out.trans hb4⟩
theorem code_999 (w : World) : Calls Tryz.prog 138 #[.int .u16 999] w fun e w' => e = .returned (.bool true) ∧ w' = w := by
  go_enter Tryz.func138, Tryz.ntmps138
  go_wp2
  go_ret
  exact ⟨rfl, rfl⟩
set_option maxHeartbeats 1000000 in
theorem awake7 (w : World) (hG : Glb5 w) : Calls Tryz.prog 266 #[] w fun e w' => e = .returned (.bool true) ∧ Below w.heap.size w w' := by
  have HG := Lib.hid hG
  clear hG
  go_enter Tryz.func266, Tryz.ntmps266
  go_wp2_with fail
  have R := Row.new w #[.int .u16 1, .int .u16 3] 34
  have HB := Lib.hid (below_alloc (Below.refl _ w) (.cells #[.int .u16 1, .int .u16 3] 34))
  obtain ⟨g, hg⟩ : ∃ g, g = w.heap.size := ⟨_, rfl⟩
  rw [← hg] at R
  rw [← hg]
  clear hg
  generalize w.alloc (.cells #[.int .u16 1, .int .u16 3] 34) = w1 at *
  have hp : PosN [1, 3] 2 1 := by
    refine ⟨by simp, fun t ht => ?_, fun t h1 h2 => ?_⟩
    · obtain rfl : t = 0 := by omega
      show (1 : Int) < 2
      omega
    · have : t < 2 := h2
      obtain rfl : t = 1 := by omega
      show (2 : Int) ≤ 3
      omega
  refine (with_new g 0 2 1 [1, 3] 2 w1 (fun i hi => by
    have hi : i < 2 := hi
    rw [R.cell]
    rcases i with _ | _ | i
    · rfl
    · rfl
    · omega) (by show 2 ≤ 100000; omega) hp (fun h => by have := h.2; simp at this)).mono ?_
  rintro _ w2 ⟨v, rfl, ho, hb⟩
  have hN : NsAt .u16 w2 v [1, 2, 3] := (NsAt.of_own (l := [1, 2, 3]) ho).1
  have HB2 := Lib.hid (below_then HB.out hb)
  clear hb ho R hp
  go_wp2_with fail
  have R7 := Row.new w2 #[.int .u16 1, .int .u16 2, .int .u16 3] 34
  have B7 := below_alloc (Below.refl _ w2) (.cells #[.int .u16 1, .int .u16 2, .int .u16 3] 34)
  have hN2 : NsAt .u16 (w2.alloc (.cells #[.int .u16 1, .int .u16 2, .int .u16 3] 34)) (.slice (some ⟨w2.heap.size, 0, none⟩) 3 3) [1, 2, 3] := NsAt.of_row (l := [1, 2, 3]) R7
  have HE := Lib.hid (equal_u16 _ _ [1, 2, 3] _ (hN.below B7) hN2 (by show 3 ≤ 1000000; omega))
  have HB3 := Lib.hid (below_then HB2.out B7)
  clear R7 B7 hN hN2
  refine HE.out.mono ?_
  rintro _ w3 ⟨rfl, hb3⟩
  have HB4 := Lib.hid (below_then HB3.out hb3)
  clear hb3 HE HB3
  go_wp2_with fail
  refine (code_999 w3).mono ?_
  rintro _ _ ⟨rfl, rfl⟩
  go_wp2_with fail
  refine (awake6 _ (HG.out.below HB4.out)).mono ?_
  rintro _ w5 ⟨rfl, hb5⟩
  go_wp2
  go_ret
  exact ⟨rfl, below_then HB4.out hb5⟩
end Go.Proofs.YtbhjkddjgikaiaaGreatDoor

namespace Go.Proofs.YtbhjkddjgikaiaaGreatDoor
open Go.RowKit
theorem awake8 (w : World) (hG : Glb5 w) : Calls Tryz.prog 252 #[] w fun e w' => e = .returned (.bool true) ∧ Below w.heap.size w w' := awake8_of awake7 w hG
end Go.Proofs.YtbhjkddjgikaiaaGreatDoor
