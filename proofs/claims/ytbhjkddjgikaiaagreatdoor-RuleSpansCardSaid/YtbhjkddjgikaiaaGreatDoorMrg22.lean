/-
  Own texts, several in one (LexS, LexQ, Tok).
-/
import Derived.Test.YtbhjkddjgikaiaaGreatDoorMrg21
import Derived.Test.YtbhjkddjgikaiaaGreatDoorMrg20
namespace Go.Proofs.YtbhjkddjgikaiaaGreatDoor
open Go.RowKit
set_option linter.unusedVariables false
set_option linter.unusedSimpArgs false

namespace Lx
theorem quo_none (r : List UInt8) (h : Lib.indexByte r 34 = -1) : ¬ (run quo r < r.length ∧ r.getD (run quo r) 0 = 34) := by
  rintro ⟨h1, h2⟩
  have := Lib.indexByte_none h (run quo r)
  rw [List.getD_eq_getElem?_getD, List.getElem?_eq_getElem h1] at h2
  rw [List.getElem?_eq_getElem h1] at this
  exact this (congrArg some h2)
theorem quo_nl (r : List UInt8) (k : Nat) (h : Lib.indexByte r 34 = k) (hm : (10 : UInt8) ∈ r.take k) : ¬ (run quo r < r.length ∧ r.getD (run quo r) 0 = 34) := by
  rintro ⟨h1, h2⟩
  obtain ⟨hk, hb⟩ := Lib.indexByte_some h
  have hle : k ≤ run quo r := by
    by_cases c : k ≤ run quo r
    · exact c
    · have := hb (run quo r) (by omega)
      rw [List.getElem?_eq_getElem h1] at this
      rw [List.getD_eq_getElem?_getD, List.getElem?_eq_getElem h1] at h2
      exact absurd (congrArg some h2) this
  obtain ⟨j, hj, he⟩ := List.getElem_of_mem hm
  rw [List.length_take] at hj
  have hq := run_bytes quo r j (by omega)
  rw [List.getElem_take] at he
  rw [List.getD_eq_getElem?_getD, List.getElem?_eq_getElem (by omega)] at hq
  simp only [Option.getD_some, he] at hq
  exact absurd hq (by decide)
theorem quo_ok (r : List UInt8) (k : Nat) (h : Lib.indexByte r 34 = k) (hm : (10 : UInt8) ∉ r.take k) : run quo r = k ∧ k < r.length ∧ r.getD k 0 = 34 := by
  obtain ⟨hk, hb⟩ := Lib.indexByte_some h
  have hlt : k < r.length := by
    by_cases c : k < r.length
    · exact c
    · rw [List.getElem?_eq_none (by omega)] at hk; cases hk
  have hg : r.getD k 0 = 34 := by rw [List.getD_eq_getElem?_getD, hk]; rfl
  refine ⟨run_at quo r k (by omega) (fun j hj => ?_) (fun _ => by rw [hg]; rfl), hlt, hg⟩
  have h1 := hb j hj
  rw [List.getElem?_eq_getElem (by omega)] at h1
  rw [List.getD_eq_getElem?_getD, List.getElem?_eq_getElem (by omega)]
  have h2 : r[j] ≠ 10 := fun e => hm (by
    rw [← e]
    exact List.mem_of_getElem? (i := j) (by rw [List.getElem?_take, if_pos hj, List.getElem?_eq_getElem (by omega)]))
  have h3 : r[j] ≠ 34 := fun e => h1 (congrArg some e)
  simp [quo, h2, h3]
end Lx
set_option maxHeartbeats 2000000 in
theorem one_quote (s : ByteArray) (l : List UInt8) (hl : l = s.data.toList) (h0 : 0 < l.length) (hs : l.length ≤ 1000000) (hc : l.getD 0 0 = 34) (w : World) :
    Calls Tryz.prog 94 #[.string s] w fun e w' => e = .returned (exV (Lx.one Dy.parse l)) ∧ Below w.heap.size w w' := by
  have hsz : s.size = l.length := by rw [hl]; exact size_data s
  have p0 : (0 : Int) < (s.size : Int) := by omega
  have p1 : 0 < s.size := by omega
  have g0 : ∀ h : 0 < s.size, (s[0]'h).toNat = 34 := fun h => by rw [get_data, ← hl, hc]; rfl
  have hi := idx_any (s.extract 1 s.size) 34
  rw [Lib.extract_data, ← hl, List.take_of_length_le (by rw [List.length_drop]; omega)] at hi
  have p2 : (1 : Int) ≤ (s.size : Int) := by omega
  unfold Lx.one
  dsimp only
  rw [hc, if_neg (by decide), if_neg (by decide), if_pos (by rfl)]
  obtain ⟨r, hr⟩ : ∃ r, r = l.drop 1 := ⟨_, rfl⟩
  rw [← hr] at hi ⊢
  have hrl : r.length + 1 = s.size := by rw [hr, List.length_drop]; omega
  rcases Int.lt_or_le (Lib.indexByte r 34) 0 with hneg | hpos
  · have e1 : Lib.indexByte r 34 = -1 := by have := Lib.indexByte_ge r 34; omega
    rw [if_neg (Lx.quo_none r e1)]
    rw [e1] at hi
    have HI := Lib.hid hi
    clear hl h0 hs hc hsz hr hneg e1 hi hrl
    show Calls _ _ _ _ fun e w' => e = .returned (.tuple #[.agg #[.int .i64 0, .string ⟨#[]⟩, .int .i64 0, .int .i32 0, .int .i64 0], .int .i64 0, .int .i64 3]) ∧ _
    go_enter Tryz.func94, Tryz.ntmps94
    go_wp2_with (first | (refine ev_alloc rfl rfl 113 rfl _ zero_tk ?_; intro g w1 hg R1 B1))
    have HB := Lib.hid B1
    clear B1
    refine (HI.out _).mono ?_
    rintro _ w2 ⟨rfl, rfl⟩
    go_wp2_with (first | (refine ev_store rfl 113 _ _ rfl g (tk Lx.tk0).toArray rfl rfl R1 (tk_info _) rfl (tk_one _) rfl ?_; intro w9 RZ S9))
    have d0 : w9.cell? ⟨g, 0, none⟩ = some (.int .i64 0) := RZ.cell 0
    have d1 : w9.cell? ⟨g, 1, none⟩ = some (.string ⟨#[]⟩) := RZ.cell 1
    have d2 : w9.cell? ⟨g, 2, none⟩ = some (.int .i64 0) := RZ.cell 2
    have d3 : w9.cell? ⟨g, 3, none⟩ = some (.int .i32 0) := RZ.cell 3
    have d4 : w9.cell? ⟨g, 4, none⟩ = some (.int .i64 0) := RZ.cell 4
    exact bodyPost_ret (v := .tuple #[.agg #[.int .i64 0, .string ⟨#[]⟩, .int .i64 0, .int .i32 0, .int .i64 0], .int .i64 0, .int .i64 3]) (by simp [results, Tryz.results94, go_sem, d0, d1, d2, d3, d4]) rfl ⟨rfl, S9.below HB.out hg⟩
  · obtain ⟨k, hk⟩ : ∃ k : Nat, Lib.indexByte r 34 = k := ⟨(Lib.indexByte r 34).toNat, by omega⟩
    rw [hk] at hi
    have HI := Lib.hid hi
    have hct := contains_any (s.extract 1 (k + 1)) 10
    rw [Lib.extract_data, ← hl, ← hr, Nat.add_sub_cancel] at hct
    have hkl : k < r.length := by
      have := (Lib.indexByte_some hk).1
      by_cases c : k < r.length
      · exact c
      · rw [List.getElem?_eq_none (by omega)] at this; cases this
    have e1 : IntKind.i64.wrap ((k : Int) + 1) = (k : Int) + 1 := by rw [IntKind.wrap_i64]; omega
    have e2 : IntKind.i64.wrap ((k : Int) + 2) = (k : Int) + 2 := by rw [IntKind.wrap_i64]; omega
    have t1 : ((k : Int) + 1).toNat = k + 1 := by omega
    have n0 : (0 : Int) ≤ (k : Int) := by omega
    have n1 : (1 : Int) ≤ (k : Int) + 1 := by omega
    have n2 : (k : Int) + 1 ≤ (s.size : Int) := by omega
    have n3 : (0 : Int) ≤ (k : Int) + 1 := by omega
    have n4 : ¬ (k : Int) < 0 := by omega
    have n5 : k + 1 ≤ s.size := by omega
    by_cases hm : (10 : UInt8) ∈ r.take k
    · rw [if_neg (Lx.quo_nl r k hk hm)]
      rw [decide_eq_true hm] at hct
      have HCT := Lib.hid hct
      clear hl h0 hs hc hsz hr hpos hi hrl hk hct hkl hm
      show Calls _ _ _ _ fun e w' => e = .returned (.tuple #[.agg #[.int .i64 0, .string ⟨#[]⟩, .int .i64 0, .int .i32 0, .int .i64 0], .int .i64 0, .int .i64 3]) ∧ _
      go_enter Tryz.func94, Tryz.ntmps94
      go_wp2_with (first | (refine ev_alloc rfl rfl 113 rfl _ zero_tk ?_; intro g w1 hg R1 B1))
      have HB := Lib.hid B1
      clear B1
      refine (HI.out _).mono ?_
      rintro _ w2 ⟨rfl, rfl⟩
      go_wp2_with fail
      refine (HCT.out _).mono ?_
      rintro _ w3 ⟨rfl, rfl⟩
      go_wp2_with (first | (refine ev_store rfl 113 _ _ rfl g (tk Lx.tk0).toArray rfl rfl R1 (tk_info _) rfl (tk_one _) rfl ?_; intro w9 RZ S9))
      have d0 : w9.cell? ⟨g, 0, none⟩ = some (.int .i64 0) := RZ.cell 0
      have d1 : w9.cell? ⟨g, 1, none⟩ = some (.string ⟨#[]⟩) := RZ.cell 1
      have d2 : w9.cell? ⟨g, 2, none⟩ = some (.int .i64 0) := RZ.cell 2
      have d3 : w9.cell? ⟨g, 3, none⟩ = some (.int .i32 0) := RZ.cell 3
      have d4 : w9.cell? ⟨g, 4, none⟩ = some (.int .i64 0) := RZ.cell 4
      exact bodyPost_ret (v := .tuple #[.agg #[.int .i64 0, .string ⟨#[]⟩, .int .i64 0, .int .i32 0, .int .i64 0], .int .i64 0, .int .i64 3]) (by simp [results, Tryz.results94, go_sem, d0, d1, d2, d3, d4]) rfl ⟨rfl, S9.below HB.out hg⟩
    · obtain ⟨q1, q2, q3⟩ := Lx.quo_ok r k hk hm
      rw [q1, if_pos ⟨q2, q3⟩]
      rw [decide_eq_false hm] at hct
      have HCT := Lib.hid hct
      have hst : (tk ⟨4, r.take k, 0, 0, 0⟩).toArray = #[.int .i64 4, .string (s.extract 1 (k + 1)), .int .i64 0, .int .i32 0, .int .i64 0] := by rw [str_ext s 1 (k + 1), ← hl, ← hr, Nat.add_sub_cancel]; rfl
      have ST := Lib.hid hst
      have HPO := Lib.hid (show Ending.returned (.tuple #[.agg #[.int .i64 4, .string (s.extract 1 (k + 1)), .int .i64 0, .int .i32 0, .int .i64 0], .int .i64 ((k : Int) + 2), .int .i64 0]) = .returned (exV (.ok (⟨4, r.take k, 0, 0, 0⟩, k + 2))) by show _ = Ending.returned (.tuple #[.agg (tk ⟨4, r.take k, 0, 0, 0⟩).toArray, .int .i64 ((k + 2 : Nat) : Int), .int .i64 0]); rw [hst]; rfl)
      clear hl h0 hs hc hsz hr hpos hi hrl hk hct hkl hm q1 q2 q3 hst
      go_enter Tryz.func94, Tryz.ntmps94
      go_wp2_with (first | (refine ev_alloc rfl rfl 113 rfl _ zero_tk ?_; intro g w1 hg R1 B1))
      have HB := Lib.hid B1
      clear B1
      refine (HI.out _).mono ?_
      rintro _ w2 ⟨rfl, rfl⟩
      go_wp2_with fail
      refine (HCT.out _).mono ?_
      rintro _ w3 ⟨rfl, rfl⟩
      go_wp2_with (first | (refine ev_store rfl 113 _ _ rfl g (tk ⟨4, r.take k, 0, 0, 0⟩).toArray rfl (congrArg Value.agg ST.out.symm) R1 (tk_info _) rfl (tk_one _) rfl ?_; intro w9 RZ S9))
      rw [ST.out] at RZ
      have d0 : w9.cell? ⟨g, 0, none⟩ = some (.int .i64 4) := RZ.cell 0
      have d1 : w9.cell? ⟨g, 1, none⟩ = some (.string (s.extract 1 (k + 1))) := RZ.cell 1
      have d2 : w9.cell? ⟨g, 2, none⟩ = some (.int .i64 0) := RZ.cell 2
      have d3 : w9.cell? ⟨g, 3, none⟩ = some (.int .i32 0) := RZ.cell 3
      have d4 : w9.cell? ⟨g, 4, none⟩ = some (.int .i64 0) := RZ.cell 4
      exact bodyPost_ret (v := .tuple #[.agg #[.int .i64 4, .string (s.extract 1 (k + 1)), .int .i64 0, .int .i32 0, .int .i64 0], .int .i64 ((k : Int) + 2), .int .i64 0]) (by simp [results, Tryz.results94, go_sem, d0, d1, d2, d3, d4]) rfl ⟨HPO.out, S9.below HB.out hg⟩
set_option maxHeartbeats 2000000 in
theorem one_sign (s : ByteArray) (l : List UInt8) (hl : l = s.data.toList) (h0 : 0 < l.length) (c : UInt8) (hcc : c = 44 ∨ c = 59) (hc : l.getD 0 0 = c) (w : World) :
    Calls Tryz.prog 94 #[.string s] w fun e w' => e = .returned (exV (Lx.one Dy.parse l)) ∧ Below w.heap.size w w' := by
  have hsz : s.size = l.length := by rw [hl]; exact size_data s
  have p0 : (0 : Int) < (s.size : Int) := by omega
  have p1 : 0 < s.size := by omega
  have p2 : (1 : Int) ≤ (s.size : Int) := by omega
  have p3 : 1 ≤ s.size := by omega
  have g0 : ∀ h : 0 < s.size, (s[0]'h).toNat = c.toNat := fun h => by rw [get_data, ← hl, hc]
  unfold Lx.one
  dsimp only
  rw [hc, if_neg (by rcases hcc with rfl | rfl <;> decide), if_neg (by rcases hcc with rfl | rfl <;> decide), if_neg (by rcases hcc with rfl | rfl <;> decide), if_pos hcc]
  have hst : (tk ⟨5, l.take 1, 0, 0, 0⟩).toArray = #[.int .i64 5, .string (s.extract 0 1), .int .i64 0, .int .i32 0, .int .i64 0] := by rw [str_take s l hl 1]; rfl
  have ST := Lib.hid hst
  have HPO := Lib.hid (show Ending.returned (.tuple #[.agg #[.int .i64 5, .string (s.extract 0 1), .int .i64 0, .int .i32 0, .int .i64 0], .int .i64 1, .int .i64 0]) = .returned (exV (.ok (⟨5, l.take 1, 0, 0, 0⟩, 1))) by show _ = Ending.returned (.tuple #[.agg (tk ⟨5, l.take 1, 0, 0, 0⟩).toArray, .int .i64 1, .int .i64 0]); rw [hst])
  clear hl h0 hsz hst hc
  have hcn : c.toNat = 44 ∨ c.toNat = 59 := by rcases hcc with rfl | rfl; exact .inl rfl; exact .inr rfl
  clear hcc
  generalize c.toNat = b at *
  rcases hcn with rfl | rfl
  all_goals
    go_enter Tryz.func94, Tryz.ntmps94
    go_wp2_with (first | (refine ev_alloc rfl rfl 113 rfl _ zero_tk ?_; intro g w1 hg R1 B1) | (refine ev_store rfl 113 _ _ rfl g (tk ⟨5, l.take 1, 0, 0, 0⟩).toArray rfl (congrArg Value.agg ST.out.symm) R1 (tk_info _) rfl (tk_one _) rfl ?_; intro w9 RZ S9))
    have HB := Lib.hid B1
    rw [ST.out] at RZ
    have d0 : w9.cell? ⟨g, 0, none⟩ = some (.int .i64 5) := RZ.cell 0
    have d1 : w9.cell? ⟨g, 1, none⟩ = some (.string (s.extract 0 1)) := RZ.cell 1
    have d2 : w9.cell? ⟨g, 2, none⟩ = some (.int .i64 0) := RZ.cell 2
    have d3 : w9.cell? ⟨g, 3, none⟩ = some (.int .i32 0) := RZ.cell 3
    have d4 : w9.cell? ⟨g, 4, none⟩ = some (.int .i64 0) := RZ.cell 4
    exact bodyPost_ret (v := .tuple #[.agg #[.int .i64 5, .string (s.extract 0 1), .int .i64 0, .int .i32 0, .int .i64 0], .int .i64 1, .int .i64 0]) (by simp [results, Tryz.results94, go_sem, d0, d1, d2, d3, d4]) rfl ⟨HPO.out, S9.below HB.out hg⟩
set_option maxHeartbeats 2000000 in
theorem one_else (s : ByteArray) (l : List UInt8) (hl : l = s.data.toList) (h0 : 0 < l.length) (h1 : ¬ Lx.low (l.getD 0 0) = true) (h2 : ¬ (48 ≤ (l.getD 0 0).toNat ∧ (l.getD 0 0).toNat ≤ 57)) (h3 : l.getD 0 0 ≠ 34) (h4 : ¬ (l.getD 0 0 = 44 ∨ l.getD 0 0 = 59)) (w : World) :
    Calls Tryz.prog 94 #[.string s] w fun e w' => e = .returned (exV (Lx.one Dy.parse l)) ∧ Below w.heap.size w w' := by
  have hsz : s.size = l.length := by rw [hl]; exact size_data s
  have p0 : (0 : Int) < (s.size : Int) := by omega
  have p1 : 0 < s.size := by omega
  have g0 : ∀ h : 0 < s.size, (s[0]'h).toNat = (l.getD 0 0).toNat := fun h => by rw [get_data, ← hl]
  unfold Lx.one
  dsimp only
  rw [if_neg h1, if_neg h2, if_neg h3, if_neg h4]
  rw [low_iff] at h1
  have k34 : (((l.getD 0 0).toNat : Int) == 34) = false := beq_eq_false_iff_ne.2 fun e => h3 (UInt8.toNat.inj (by show _ = 34; omega))
  have k44 : (((l.getD 0 0).toNat : Int) == 44) = false := beq_eq_false_iff_ne.2 fun e => h4 (.inl (UInt8.toNat.inj (by show _ = 44; omega)))
  have k59 : (((l.getD 0 0).toNat : Int) == 59) = false := beq_eq_false_iff_ne.2 fun e => h4 (.inr (UInt8.toNat.inj (by show _ = 59; omega)))
  have hz : ((97 : Int) ≤ ((l.getD 0 0).toNat : Int) ∧ ¬ ((l.getD 0 0).toNat : Int) ≤ 122 ∧ (48 : Int) ≤ ((l.getD 0 0).toNat : Int) ∧ ¬ ((l.getD 0 0).toNat : Int) ≤ 57) ∨ (¬ (97 : Int) ≤ ((l.getD 0 0).toNat : Int) ∧ (48 : Int) ≤ ((l.getD 0 0).toNat : Int) ∧ ¬ ((l.getD 0 0).toNat : Int) ≤ 57) ∨ (¬ (97 : Int) ≤ ((l.getD 0 0).toNat : Int) ∧ ¬ (48 : Int) ≤ ((l.getD 0 0).toNat : Int)) := by omega
  clear h1 h2 h3 h4 hsz hl h0
  generalize (l.getD 0 0).toNat = b at *
  rcases hz with ⟨z1, z2, z3, z4⟩ | ⟨z1, z2, z3⟩ | ⟨z1, z2⟩
  all_goals
    show Calls _ _ _ _ fun e w' => e = .returned (.tuple #[.agg #[.int .i64 0, .string ⟨#[]⟩, .int .i64 0, .int .i32 0, .int .i64 0], .int .i64 0, .int .i64 1]) ∧ _
    go_enter Tryz.func94, Tryz.ntmps94
    go_wp2_with (first | (refine ev_alloc rfl rfl 113 rfl _ zero_tk ?_; intro g w1 hg R1 B1) | (refine ev_store rfl 113 _ _ rfl g (tk Lx.tk0).toArray rfl rfl R1 (tk_info _) rfl (tk_one _) rfl ?_; intro w9 RZ S9))
    have HB := Lib.hid B1
    have d0 : w9.cell? ⟨g, 0, none⟩ = some (.int .i64 0) := RZ.cell 0
    have d1 : w9.cell? ⟨g, 1, none⟩ = some (.string ⟨#[]⟩) := RZ.cell 1
    have d2 : w9.cell? ⟨g, 2, none⟩ = some (.int .i64 0) := RZ.cell 2
    have d3 : w9.cell? ⟨g, 3, none⟩ = some (.int .i32 0) := RZ.cell 3
    have d4 : w9.cell? ⟨g, 4, none⟩ = some (.int .i64 0) := RZ.cell 4
    exact bodyPost_ret (v := .tuple #[.agg #[.int .i64 0, .string ⟨#[]⟩, .int .i64 0, .int .i32 0, .int .i64 0], .int .i64 0, .int .i64 1]) (by simp [results, Tryz.results94, go_sem, d0, d1, d2, d3, d4]) rfl ⟨rfl, S9.below HB.out hg⟩
theorem one_any (s : ByteArray) (l : List UInt8) (hl : l = s.data.toList) (h0 : 0 < l.length) (hs : l.length ≤ 1000000) (w : World) (hM : Glb5 w) :
    Calls Tryz.prog 94 #[.string s] w fun e w' => e = .returned (exV (Lx.one Dy.parse l)) ∧ Below w.heap.size w w' := by
  by_cases c1 : Lx.low (l.getD 0 0) = true
  · exact one_word s l hl h0 hs c1 w hM
  · by_cases c2 : 48 ≤ (l.getD 0 0).toNat ∧ (l.getD 0 0).toNat ≤ 57
    · exact one_digits s l hl h0 hs c1 c2 w hM
    · by_cases c3 : l.getD 0 0 = 34
      · exact one_quote s l hl h0 hs c3 w
      · by_cases c4 : l.getD 0 0 = 44 ∨ l.getD 0 0 = 59
        · exact one_sign s l hl h0 _ c4 rfl w
        · exact one_else s l hl h0 c1 c2 c3 c4 w
end Go.Proofs.YtbhjkddjgikaiaaGreatDoor

namespace Go.Proofs.YtbhjkddjgikaiaaGreatDoor
set_option linter.unusedVariables false
set_option linter.unusedSimpArgs false
set_option autoImplicit false
namespace Lx
variable (pd : List UInt8 → Option Int)
def join (ts us : Except (Nat × Nat) (List Tk)) : Except (Nat × Nat) (List Tk) := match ts with
  | .error e => .error e
  | .ok l => match us with
    | .error e => .error e
    | .ok m => .ok (l.dropLast ++ m)
theorem join_cons (t : Tk) (ts us : Except (Nat × Nat) (List Tk)) (h : ts ≠ .ok []) : join (consE t ts) us = consE t (join ts us) := by
  rcases ts with e | ts
  · rfl
  · rcases us with e | us
    · rfl
    · rcases ts with _ | ⟨a, ts⟩
      · exact absurd rfl h
      · rfl
theorem join_nil (i : Nat) (us : Except (Nat × Nat) (List Tk)) : join (.ok [tk0.put i]) us = us := by rcases us with e | us <;> rfl
def Tk.up (k : Nat) (t : Tk) : Tk := { t with pos := t.pos + k }
def Tk.bare (t : Tk) : Tk := t.put 0
end Lx
end Go.Proofs.YtbhjkddjgikaiaaGreatDoor

namespace Go.Proofs.YtbhjkddjgikaiaaGreatDoor
open Go.RowKit
set_option linter.unusedVariables false
set_option linter.unusedSimpArgs false

def tks (l : List Lx.Tk) : List Value := l.flatMap tk
theorem tks_app (l m : List Lx.Tk) : tks (l ++ m) = tks l ++ tks m := by simp [tks]
theorem tk_len (t : Lx.Tk) : (tk t).length = 5 := rfl
theorem tks_len (l : List Lx.Tk) : (tks l).length = l.length * 5 := by
  induction l with
  | nil => rfl
  | cons t l ih => show (tk t ++ tks l).length = _; rw [List.length_append, ih, tk_len, List.length_cons]; omega
theorem info_tk : ∃ i, Tryz.prog.info? 113 = some i ∧ i.zero = some (.agg (tk Lx.tk0).toArray) ∧ i.size = 5 ∧ i.bytes = 48 := by
  have h : (Tryz.prog.info? 113).map (fun i => (i.zero, i.size, i.bytes)) = some (some (.agg (tk Lx.tk0).toArray), 5, 48) := by kernel_rfl
  obtain ⟨i, hi, h⟩ := Option.map_eq_some_iff.1 h
  simp only [Prod.mk.injEq] at h
  exact ⟨i, hi, h.1, h.2.1, h.2.2⟩
theorem tk_all (t : Lx.Tk) : ∀ u ∈ tk t, u.oneCell' = true := by
  intro u hu
  simp [tk] at hu
  rcases hu with rfl | rfl | rfl | rfl | rfl <;> rfl
theorem tks_get (l : List Lx.Tk) : ∀ (i : Nat), i < l.length → ∀ j v, (tk (l.getD i Lx.tk0))[j]? = some v → (tks l)[i * 5 + j]? = some v := by
  induction l with
  | nil => intro i h; simp at h
  | cons t l ih =>
    intro i hi j v hv
    have hj : j < 5 := by
      by_cases c : j < 5
      · exact c
      · rw [List.getElem?_eq_none (by rw [tk_len]; omega)] at hv; cases hv
    show (tk t ++ tks l)[i * 5 + j]? = _
    rcases i with _ | i
    · rw [List.getElem?_append_left (by rw [tk_len]; omega)]
      simpa using hv
    · rw [List.getElem?_append_right (by rw [tk_len]; omega), tk_len, show (i + 1) * 5 + j - 5 = i * 5 + j by omega]
      exact ih i (by simpa using hi) j v (by simpa using hv)
/-- a row of one's own reads as its tokens -/
theorem els_own {w : World} {B n : Nat} {e : TypeId} {v : Value} {l : List Lx.Tk} (h : w.ownsRow B e 5 v n (tks l)) : l.length = n ∧ ∃ p cap, v = .slice p l.length cap ∧ ElsAt tk 5 Lx.tk0 w p l := by
  obtain ⟨h1, h2⟩ := h
  have hl : l.length = n := by rw [tks_len] at h1; omega
  refine ⟨hl, ?_⟩
  rcases h2 with ⟨rfl, rfl⟩ | ⟨g, cap, cur, rfl, _, hh, _, _, hs, ht⟩
  · exact ⟨none, 0, by rw [hl], .inl (List.length_eq_zero_iff.1 hl)⟩
  · refine ⟨_, cap, by rw [hl], .inr ⟨g, 0, rfl, fun i hi j v hv => ?_⟩⟩
    have hj : j < 5 := by
      by_cases c : j < 5
      · exact c
      · rw [List.getElem?_eq_none (by rw [tk_len]; omega)] at hv; cases hv
    have hg := tks_get l i hi j v hv
    rw [← ht, List.getElem?_take, if_pos (by omega)] at hg
    rw [cell_of_row w g _ cur e _ hh, show 0 + i * 5 + j = i * 5 + j by omega]
    simpa using hg
end Go.Proofs.YtbhjkddjgikaiaaGreatDoor
