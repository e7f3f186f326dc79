/-
  Own texts, several in one (LexM, SplitL, Awake12).
-/
import Derived.Test.YtbhjkddjgikaiaaGreatDoorMrg23
namespace Go.Proofs.YtbhjkddjgikaiaaGreatDoor
open Go.RowKit
set_option linter.unusedVariables false
set_option linter.unusedSimpArgs false

set_option maxHeartbeats 2000000 in
theorem lone_sign (s : ByteArray) (l : List UInt8) (hl : l = s.data.toList) (h0 : 0 < l.length) (hs : l.length ≤ 1000000) (c : UInt8) (hcc : c = 44 ∨ c = 59) (hc : l.getD 0 0 = c) (w : World) :
    Calls Tryz.prog 102 #[.string s] w fun e w' => e = .returned (exV (Lx.one Dy.parse l)) ∧ Below w.heap.size w w' := by
  have hlo : ¬ Lx.low (l.getD 0 0) = true := by rw [hc]; rcases hcc with rfl | rfl <;> decide
  have hdg : ¬ Lx.dgt (l.getD 0 0) = true := by rw [hc]; rcases hcc with rfl | rfl <;> decide
  have hsz : s.size = l.length := by rw [hl]; exact size_data s
  have p0 : (0 : Int) < (s.size : Int) := by omega
  have p1 : 0 < s.size := by omega
  have g0 : ∀ h : 0 < s.size, (s[0]'h).toNat = (l.getD 0 0).toNat := fun h => by rw [get_data, ← hl]
  have ha := among_any s letters Lx.low letters_low (by omega)
  rw [← hl] at ha
  have hb := among_any s digits Lx.dgt digits_dgt (by omega)
  rw [← hl] at hb
  rw [(run_zero Lx.low l h0).2 hlo] at ha
  have HA := Lib.hid ha
  rw [(run_zero Lx.dgt l h0).2 hdg] at hb
  have HB0 := Lib.hid hb
  have p2 : (1 : Int) ≤ (s.size : Int) := by omega
  have p3 : 1 ≤ s.size := by omega
  unfold Lx.one
  dsimp only
  rw [hc, if_neg (by rcases hcc with rfl | rfl <;> decide), if_neg (by rcases hcc with rfl | rfl <;> decide), if_neg (by rcases hcc with rfl | rfl <;> decide), if_pos hcc]
  have hst : (tk ⟨5, l.take 1, 0, 0, 0⟩).toArray = #[.int .i64 5, .string (s.extract 0 1), .int .i64 0, .int .i32 0, .int .i64 0] := by rw [str_take s l hl 1]; rfl
  have ST := Lib.hid hst
  have HPO := Lib.hid (show Ending.returned (.tuple #[.agg #[.int .i64 5, .string (s.extract 0 1), .int .i64 0, .int .i32 0, .int .i64 0], .int .i64 1, .int .i64 0]) = .returned (exV (.ok (⟨5, l.take 1, 0, 0, 0⟩, 1))) by show _ = Ending.returned (.tuple #[.agg (tk ⟨5, l.take 1, 0, 0, 0⟩).toArray, .int .i64 1, .int .i64 0]); rw [hst])
  rw [hc] at g0
  have hcn : c.toNat = 44 ∨ c.toNat = 59 := by rcases hcc with rfl | rfl; exact .inl rfl; exact .inr rfl
  clear hl h0 hsz hst hc hs hlo hdg ha hb hcc
  generalize c.toNat = b at *
  unfold letters at HA
  unfold digits at HB0
  rcases hcn with rfl | rfl
  all_goals
    go_enter Tryz.func102, Tryz.ntmps102
    go_wp2_with (first | (refine ev_alloc rfl rfl 113 rfl _ zero_tk ?_; intro g w1 hg R1 B1))
    have HB := Lib.hid B1
    clear B1
    refine (HA.out _).mono ?_
    rintro _ w2 ⟨rfl, rfl⟩
    go_wp2_with fail
    refine (HB0.out _).mono ?_
    rintro _ w3 ⟨rfl, rfl⟩
    go_wp2_with (first | (refine ev_store rfl 113 _ _ rfl g (tk ⟨5, l.take 1, 0, 0, 0⟩).toArray rfl (congrArg Value.agg ST.out.symm) R1 (tk_info _) rfl (tk_one _) rfl ?_; intro w9 RZ S9))
    rw [ST.out] at RZ
    have d0 : w9.cell? ⟨g, 0, none⟩ = some (.int .i64 5) := RZ.cell 0
    have d1 : w9.cell? ⟨g, 1, none⟩ = some (.string (s.extract 0 1)) := RZ.cell 1
    have d2 : w9.cell? ⟨g, 2, none⟩ = some (.int .i64 0) := RZ.cell 2
    have d3 : w9.cell? ⟨g, 3, none⟩ = some (.int .i32 0) := RZ.cell 3
    have d4 : w9.cell? ⟨g, 4, none⟩ = some (.int .i64 0) := RZ.cell 4
    exact bodyPost_ret (v := .tuple #[.agg #[.int .i64 5, .string (s.extract 0 1), .int .i64 0, .int .i32 0, .int .i64 0], .int .i64 1, .int .i64 0]) (by simp [results, Tryz.results102, go_sem, d0, d1, d2, d3, d4]) rfl ⟨HPO.out, S9.below HB.out hg⟩
set_option maxHeartbeats 2000000 in
theorem lone_else (s : ByteArray) (l : List UInt8) (hl : l = s.data.toList) (h0 : 0 < l.length) (hs : l.length ≤ 1000000) (hlo : ¬ Lx.low (l.getD 0 0) = true) (h2 : ¬ (48 ≤ (l.getD 0 0).toNat ∧ (l.getD 0 0).toNat ≤ 57)) (h3 : l.getD 0 0 ≠ 34) (h4 : ¬ (l.getD 0 0 = 44 ∨ l.getD 0 0 = 59)) (w : World) :
    Calls Tryz.prog 102 #[.string s] w fun e w' => e = .returned (exV (Lx.one Dy.parse l)) ∧ Below w.heap.size w w' := by
  have hsz : s.size = l.length := by rw [hl]; exact size_data s
  have p0 : (0 : Int) < (s.size : Int) := by omega
  have p1 : 0 < s.size := by omega
  have g0 : ∀ h : 0 < s.size, (s[0]'h).toNat = (l.getD 0 0).toNat := fun h => by rw [get_data, ← hl]
  have ha := among_any s letters Lx.low letters_low (by omega)
  rw [← hl] at ha
  have hb := among_any s digits Lx.dgt digits_dgt (by omega)
  rw [← hl] at hb
  rw [(run_zero Lx.low l h0).2 hlo] at ha
  have HA := Lib.hid ha
  unfold Lx.one
  dsimp only
  rw [if_neg hlo, if_neg h2, if_neg h3, if_neg h4]
  have k34 : (((l.getD 0 0).toNat : Int) == 34) = false := beq_eq_false_iff_ne.2 fun e => h3 (UInt8.toNat.inj (by show _ = 34; omega))
  have k44 : (((l.getD 0 0).toNat : Int) == 44) = false := beq_eq_false_iff_ne.2 fun e => h4 (.inl (UInt8.toNat.inj (by show _ = 44; omega)))
  have k59 : (((l.getD 0 0).toNat : Int) == 59) = false := beq_eq_false_iff_ne.2 fun e => h4 (.inr (UInt8.toNat.inj (by show _ = 59; omega)))
  by_cases hdg : Lx.dgt (l.getD 0 0) = true
  · have h45 : (l.getD 0 0).toNat = 45 := by
      unfold Lx.dgt Lx.inR at hdg
      rw [Bool.or_eq_true, Bool.and_eq_true] at hdg
      simp only [decide_eq_true_eq] at hdg
      omega
    have hp := (run_zero Lx.dgt l h0).1 hdg
    generalize Lx.run Lx.dgt l = n at *
    have n0 : (0 : Int) < (n : Int) := by omega
    have HB0 := Lib.hid hb
    rw [h45] at g0
    clear hl h0 hsz hs hlo ha hb h2 h3 h4 k34 k44 k59 hdg h45 hp
    unfold letters at HA
    unfold digits at HB0
    show Calls _ _ _ _ fun e w' => e = .returned (.tuple #[.agg #[.int .i64 0, .string ⟨#[]⟩, .int .i64 0, .int .i32 0, .int .i64 0], .int .i64 0, .int .i64 1]) ∧ _
    go_enter Tryz.func102, Tryz.ntmps102
    go_wp2_with (first | (refine ev_alloc rfl rfl 113 rfl _ zero_tk ?_; intro g w1 hg R1 B1))
    have HB := Lib.hid B1
    clear B1
    refine (HA.out _).mono ?_
    rintro _ w2 ⟨rfl, rfl⟩
    go_wp2_with fail
    refine (HB0.out _).mono ?_
    rintro _ w3 ⟨rfl, rfl⟩
    go_wp2_with (first | (refine ev_store rfl 113 _ _ rfl g (tk Lx.tk0).toArray rfl rfl R1 (tk_info _) rfl (tk_one _) rfl ?_; intro w9 RZ S9))
    have d0 : w9.cell? ⟨g, 0, none⟩ = some (.int .i64 0) := RZ.cell 0
    have d1 : w9.cell? ⟨g, 1, none⟩ = some (.string ⟨#[]⟩) := RZ.cell 1
    have d2 : w9.cell? ⟨g, 2, none⟩ = some (.int .i64 0) := RZ.cell 2
    have d3 : w9.cell? ⟨g, 3, none⟩ = some (.int .i32 0) := RZ.cell 3
    have d4 : w9.cell? ⟨g, 4, none⟩ = some (.int .i64 0) := RZ.cell 4
    exact bodyPost_ret (v := .tuple #[.agg #[.int .i64 0, .string ⟨#[]⟩, .int .i64 0, .int .i32 0, .int .i64 0], .int .i64 0, .int .i64 1]) (by simp [results, Tryz.results102, go_sem, d0, d1, d2, d3, d4]) rfl ⟨rfl, S9.below HB.out hg⟩
  · rw [(run_zero Lx.dgt l h0).2 hdg] at hb
    have HB0 := Lib.hid hb
    generalize (l.getD 0 0).toNat = b at *
    clear hl h0 hsz hs hlo ha hb h2 h3 h4 hdg
    unfold letters at HA
    unfold digits at HB0
    show Calls _ _ _ _ fun e w' => e = .returned (.tuple #[.agg #[.int .i64 0, .string ⟨#[]⟩, .int .i64 0, .int .i32 0, .int .i64 0], .int .i64 0, .int .i64 1]) ∧ _
    go_enter Tryz.func102, Tryz.ntmps102
    go_wp2_with (first | (refine ev_alloc rfl rfl 113 rfl _ zero_tk ?_; intro g w1 hg R1 B1))
    have HB := Lib.hid B1
    clear B1
    refine (HA.out _).mono ?_
    rintro _ w2 ⟨rfl, rfl⟩
    go_wp2_with fail
    refine (HB0.out _).mono ?_
    rintro _ w3 ⟨rfl, rfl⟩
    go_wp2_with (first | (refine ev_store rfl 113 _ _ rfl g (tk Lx.tk0).toArray rfl rfl R1 (tk_info _) rfl (tk_one _) rfl ?_; intro w9 RZ S9))
    have d0 : w9.cell? ⟨g, 0, none⟩ = some (.int .i64 0) := RZ.cell 0
    have d1 : w9.cell? ⟨g, 1, none⟩ = some (.string ⟨#[]⟩) := RZ.cell 1
    have d2 : w9.cell? ⟨g, 2, none⟩ = some (.int .i64 0) := RZ.cell 2
    have d3 : w9.cell? ⟨g, 3, none⟩ = some (.int .i32 0) := RZ.cell 3
    have d4 : w9.cell? ⟨g, 4, none⟩ = some (.int .i64 0) := RZ.cell 4
    exact bodyPost_ret (v := .tuple #[.agg #[.int .i64 0, .string ⟨#[]⟩, .int .i64 0, .int .i32 0, .int .i64 0], .int .i64 0, .int .i64 1]) (by simp [results, Tryz.results102, go_sem, d0, d1, d2, d3, d4]) rfl ⟨rfl, S9.below HB.out hg⟩
set_option maxHeartbeats 4000000 in
theorem lone_quote (s : ByteArray) (l : List UInt8) (hl : l = s.data.toList) (h0 : 0 < l.length) (hs : l.length ≤ 1000000) (hc : l.getD 0 0 = 34) (w : World) :
    Calls Tryz.prog 102 #[.string s] w fun e w' => e = .returned (exV (Lx.one Dy.parse l)) ∧ Below w.heap.size w w' := by
  have hlo : ¬ Lx.low (l.getD 0 0) = true := by rw [hc]; decide
  have hdg : ¬ Lx.dgt (l.getD 0 0) = true := by rw [hc]; decide
  have hsz : s.size = l.length := by rw [hl]; exact size_data s
  have p0 : (0 : Int) < (s.size : Int) := by omega
  have p1 : 0 < s.size := by omega
  have g0 : ∀ h : 0 < s.size, (s[0]'h).toNat = (l.getD 0 0).toNat := fun h => by rw [get_data, ← hl]
  have ha := among_any s letters Lx.low letters_low (by omega)
  rw [← hl] at ha
  have hb := among_any s digits Lx.dgt digits_dgt (by omega)
  rw [← hl] at hb
  rw [(run_zero Lx.low l h0).2 hlo] at ha
  have HA := Lib.hid ha
  rw [(run_zero Lx.dgt l h0).2 hdg] at hb
  have HB0 := Lib.hid hb
  have hg : ∀ i (h : i < s.size), (s[i]'h).toNat = (l.getD i 0).toNat := fun i h => by rw [hl, get_data]
  have hc34 : (l.getD 0 0).toNat = 34 := by rw [hc]; rfl
  rw [hc34] at g0
  -- the answer, by where the loop ends
  have hno : ∀ i, 1 ≤ i → i ≤ l.length → (∀ k, 1 ≤ k → k < i → Lx.quo (l.getD k 0) = true) → (i < l.length → l.getD i 0 = 10) → Lx.one Dy.parse l = .error 3 := fun i h1 h2 h3 h4 => by
    have g : ∀ k, (l.drop 1).getD k 0 = l.getD (1 + k) 0 := fun k => by rw [List.getD_eq_getElem?_getD, List.getElem?_drop, ← List.getD_eq_getElem?_getD]
    have hr : Lx.run Lx.quo (l.drop 1) = i - 1 := Lx.run_at _ _ _ (by rw [List.length_drop]; omega) (fun k hk => by rw [g]; exact h3 _ (by omega) (by omega)) (fun hk => by
      rw [List.length_drop] at hk
      rw [g, show 1 + (i - 1) = i by omega, h4 (by omega)]; rfl)
    unfold Lx.one
    dsimp only
    rw [if_neg hlo, hc, if_neg (by decide), if_pos (by rfl), hr, if_neg]
    rintro ⟨a, b⟩
    rw [List.length_drop] at a
    rw [g, show 1 + (i - 1) = i by omega, h4 (by omega)] at b
    exact absurd b (by decide)
  have hyes : ∀ i, 1 ≤ i → i < l.length → (∀ k, 1 ≤ k → k < i → Lx.quo (l.getD k 0) = true) → l.getD i 0 = 34 → Lx.one Dy.parse l = .ok (⟨4, (l.drop 1).take (i - 1), 0, 0, 0⟩, i + 1) := fun i h1 h2 h3 h4 => by
    have g : ∀ k, (l.drop 1).getD k 0 = l.getD (1 + k) 0 := fun k => by rw [List.getD_eq_getElem?_getD, List.getElem?_drop, ← List.getD_eq_getElem?_getD]
    have hr : Lx.run Lx.quo (l.drop 1) = i - 1 := Lx.run_at _ _ _ (by rw [List.length_drop]; omega) (fun k hk => by rw [g]; exact h3 _ (by omega) (by omega)) (fun hk => by
      rw [g, show 1 + (i - 1) = i by omega, h4]; rfl)
    unfold Lx.one
    dsimp only
    rw [if_neg hlo, hc, if_neg (by decide), if_pos (by rfl), hr, if_pos ⟨by rw [List.length_drop]; omega, by rw [g, show 1 + (i - 1) = i by omega, h4]⟩]
    rw [show i - 1 + 2 = i + 1 by omega]
  have HNO := Lib.hid hno
  have HYES := Lib.hid hyes
  have HG := Lib.hid hg
  have HS := Lib.hid (And.intro hsz (And.intro hs h0))
  have HL := Lib.hid hl
  obtain ⟨o, ho⟩ : ∃ o, o = Lx.one Dy.parse l := ⟨_, rfl⟩
  rw [← ho] at HNO HYES ⊢
  clear hl h0 hsz hs hlo ha hb hc hdg hno hyes hg hc34 ho
  unfold letters at HA
  unfold digits at HB0
  go_enter Tryz.func102, Tryz.ntmps102
  go_wp2_with (first | (refine ev_alloc rfl rfl 113 rfl _ zero_tk ?_; intro g w1 hg R1 B1))
  have HB := Lib.hid B1
  clear B1
  refine (HA.out _).mono ?_
  rintro _ w2 ⟨rfl, rfl⟩
  go_wp2_with fail
  refine (HB0.out _).mono ?_
  rintro _ w3 ⟨rfl, rfl⟩
  go_wp2_with fail
  have HR := Lib.hid R1
  clear R1 p0 p1 g0
  go_loopw [12] (fun iv wr => ∃ i : Nat, 1 ≤ i ∧ i ≤ l.length ∧ iv = .int .i64 (i : Int) ∧ (∀ k, 1 ≤ k → k < i → Lx.quo (l.getD k 0) = true) ∧ wr = w3) (fun iv _ => l.length - (intOf iv).toNat)
  case atStart => exact ⟨1, by omega, by have := HS.out; omega, rfl, fun k h1 h2 => by omega, rfl⟩
  case round =>
    obtain ⟨i, h1, hi, rfl, hq, rfl⟩ := hrel
    have HQ := Lib.hid hq
    have HI1 := Lib.hid h1
    have HBY : l.length = i ∨ (i < l.length ∧ (l.getD i 0 = 10 ∨ l.getD i 0 = 34 ∨ (l.getD i 0 ≠ 10 ∧ l.getD i 0 ≠ 34))) := by
      by_cases a : i < l.length
      · right
        refine ⟨a, ?_⟩
        by_cases b : l.getD i 0 = 10
        · exact .inl b
        · by_cases c : l.getD i 0 = 34
          · exact .inr (.inl c)
          · exact .inr (.inr ⟨b, c⟩)
      · left; omega
    clear hq h1
    rcases HBY with hlen | ⟨hlt, hby⟩
    · have e := HNO.out i HI1.out hi HQ.out fun h => by omega
      have HPO := Lib.hid (show Ending.returned (.tuple #[.agg #[.int .i64 0, .string ⟨#[]⟩, .int .i64 0, .int .i32 0, .int .i64 0], .int .i64 0, .int .i64 3]) = .returned (exV o) by rw [e]; rfl)
      have i1 : ¬ (i : Int) < (s.size : Int) := by have := HS.out; omega
      clear e hi hlen
      go_wp2_with (first | (refine ev_store rfl 113 _ _ rfl g (tk Lx.tk0).toArray rfl rfl HR.out (tk_info _) rfl (tk_one _) rfl ?_; intro w9 RZ S9))
      have d0 : w9.cell? ⟨g, 0, none⟩ = some (.int .i64 0) := RZ.cell 0
      have d1 : w9.cell? ⟨g, 1, none⟩ = some (.string ⟨#[]⟩) := RZ.cell 1
      have d2 : w9.cell? ⟨g, 2, none⟩ = some (.int .i64 0) := RZ.cell 2
      have d3 : w9.cell? ⟨g, 3, none⟩ = some (.int .i32 0) := RZ.cell 3
      have d4 : w9.cell? ⟨g, 4, none⟩ = some (.int .i64 0) := RZ.cell 4
      exact bodyPost_ret (v := .tuple #[.agg #[.int .i64 0, .string ⟨#[]⟩, .int .i64 0, .int .i32 0, .int .i64 0], .int .i64 0, .int .i64 3]) (by simp [results, Tryz.results102, go_sem, d0, d1, d2, d3, d4]) rfl ⟨HPO.out, S9.below HB.out hg⟩
    · have i1 : (i : Int) < (s.size : Int) := by have := HS.out; omega
      have i0 : (0 : Int) ≤ (i : Int) := by omega
      have i2 : i < s.size := by have := HS.out; omega
      have gi : ∀ h : i < s.size, (s[i]'h).toNat = (l.getD i 0).toNat := fun h => HG.out i h
      have HI := Lib.hid hlt
      rcases hby with hb | hb | ⟨hb1, hb2⟩
      · have e := HNO.out i HI1.out hi HQ.out fun _ => hb
        have HPO := Lib.hid (show Ending.returned (.tuple #[.agg #[.int .i64 0, .string ⟨#[]⟩, .int .i64 0, .int .i32 0, .int .i64 0], .int .i64 0, .int .i64 3]) = .returned (exV o) by rw [e]; rfl)
        have hbn : (l.getD i 0).toNat = 10 := by rw [hb]; rfl
        rw [hbn] at gi
        clear e hi hb hbn hlt
        go_wp2_with (first | (refine ev_store rfl 113 _ _ rfl g (tk Lx.tk0).toArray rfl rfl HR.out (tk_info _) rfl (tk_one _) rfl ?_; intro w9 RZ S9))
        have d0 : w9.cell? ⟨g, 0, none⟩ = some (.int .i64 0) := RZ.cell 0
        have d1 : w9.cell? ⟨g, 1, none⟩ = some (.string ⟨#[]⟩) := RZ.cell 1
        have d2 : w9.cell? ⟨g, 2, none⟩ = some (.int .i64 0) := RZ.cell 2
        have d3 : w9.cell? ⟨g, 3, none⟩ = some (.int .i32 0) := RZ.cell 3
        have d4 : w9.cell? ⟨g, 4, none⟩ = some (.int .i64 0) := RZ.cell 4
        exact bodyPost_ret (v := .tuple #[.agg #[.int .i64 0, .string ⟨#[]⟩, .int .i64 0, .int .i32 0, .int .i64 0], .int .i64 0, .int .i64 3]) (by simp [results, Tryz.results102, go_sem, d0, d1, d2, d3, d4]) rfl ⟨HPO.out, S9.below HB.out hg⟩
      · have e := HYES.out i HI1.out hlt HQ.out hb
        have j1 : (1 : Int) ≤ (i : Int) := by have := HI1.out; omega
        have j2 : (i : Int) ≤ (s.size : Int) := by omega
        have e1 : IntKind.i64.wrap ((i : Int) + 1) = (i : Int) + 1 := by have := HS.out; rw [IntKind.wrap_i64]; omega
        have hst : (tk ⟨4, (l.drop 1).take (i - 1), 0, 0, 0⟩).toArray = #[.int .i64 4, .string (s.extract 1 i), .int .i64 0, .int .i32 0, .int .i64 0] := by rw [str_ext s 1 i, ← HL.out]; rfl
        have ST := Lib.hid hst
        have HPO := Lib.hid (show Ending.returned (.tuple #[.agg #[.int .i64 4, .string (s.extract 1 i), .int .i64 0, .int .i32 0, .int .i64 0], .int .i64 ((i : Int) + 1), .int .i64 0]) = .returned (exV o) by rw [e]; show _ = Ending.returned (.tuple #[.agg (tk ⟨4, (l.drop 1).take (i - 1), 0, 0, 0⟩).toArray, .int .i64 ((i + 1 : Nat) : Int), .int .i64 0]); rw [hst]; rfl)
        have hbn : (l.getD i 0).toNat = 34 := by rw [hb]; rfl
        rw [hbn] at gi
        clear e hi hb hbn hlt hst
        go_wp2_with (first | (refine ev_store rfl 113 _ _ rfl g (tk ⟨4, (l.drop 1).take (i - 1), 0, 0, 0⟩).toArray rfl (congrArg Value.agg ST.out.symm) HR.out (tk_info _) rfl (tk_one _) rfl ?_; intro w9 RZ S9))
        rw [ST.out] at RZ
        have d0 : w9.cell? ⟨g, 0, none⟩ = some (.int .i64 4) := RZ.cell 0
        have d1 : w9.cell? ⟨g, 1, none⟩ = some (.string (s.extract 1 i)) := RZ.cell 1
        have d2 : w9.cell? ⟨g, 2, none⟩ = some (.int .i64 0) := RZ.cell 2
        have d3 : w9.cell? ⟨g, 3, none⟩ = some (.int .i32 0) := RZ.cell 3
        have d4 : w9.cell? ⟨g, 4, none⟩ = some (.int .i64 0) := RZ.cell 4
        exact bodyPost_ret (v := .tuple #[.agg #[.int .i64 4, .string (s.extract 1 i), .int .i64 0, .int .i32 0, .int .i64 0], .int .i64 ((i : Int) + 1), .int .i64 0]) (by simp [results, Tryz.results102, go_sem, d0, d1, d2, d3, d4]) rfl ⟨HPO.out, S9.below HB.out hg⟩
      · have k10 : (((l.getD i 0).toNat : Int) != 10) = true := bne_iff_ne.2 fun e => hb1 (UInt8.toNat.inj (by show _ = 10; omega))
        have k34 : (((l.getD i 0).toNat : Int) == 34) = false := beq_eq_false_iff_ne.2 fun e => hb2 (UInt8.toNat.inj (by show _ = 34; omega))
        have HQ2 := Lib.hid (show Lx.quo (l.getD i 0) = true by unfold Lx.quo; rw [beq_eq_false_iff_ne.2 hb1, beq_eq_false_iff_ne.2 hb2]; rfl)
        have e1 : IntKind.i64.wrap ((i : Int) + 1) = (i : Int) + 1 := by have := HS.out; rw [IntKind.wrap_i64]; omega
        generalize (l.getD i 0).toNat = b at *
        clear hi hb1 hb2 hlt
        go_wp2_with fail
        refine ⟨⟨i + 1, by omega, HI.out, by simp, fun k h1 h2 => ?_, by first | rfl | trivial⟩, by have := HI.out; simp [intOf]; omega⟩
        by_cases e : k < i
        · exact HQ.out k h1 e
        · obtain rfl : k = i := by omega
          exact HQ2.out
theorem lone_any (s : ByteArray) (l : List UInt8) (hl : l = s.data.toList) (h0 : 0 < l.length) (hs : l.length ≤ 1000000) (w : World) (hM : Glb5 w) :
    Calls Tryz.prog 102 #[.string s] w fun e w' => e = .returned (exV (Lx.one Dy.parse l)) ∧ Below w.heap.size w w' := by
  by_cases c1 : Lx.low (l.getD 0 0) = true
  · exact lone_word s l hl h0 hs c1 w hM
  · by_cases c2 : 48 ≤ (l.getD 0 0).toNat ∧ (l.getD 0 0).toNat ≤ 57
    · by_cases hm : (45 : UInt8) ∈ l.take (Lx.run Lx.dgt l)
      · exact lone_day s l hl h0 hs c1 c2 hm w hM
      · exact lone_num s l hl h0 hs c1 c2 hm w
    · by_cases c3 : l.getD 0 0 = 34
      · exact lone_quote s l hl h0 hs c3 w
      · by_cases c4 : l.getD 0 0 = 44 ∨ l.getD 0 0 = 59
        · exact lone_sign s l hl h0 hs _ c4 rfl w
        · exact lone_else s l hl h0 hs c1 c2 c3 c4 w
end Go.Proofs.YtbhjkddjgikaiaaGreatDoor

namespace Go.Proofs.YtbhjkddjgikaiaaGreatDoor
open Go.RowKit
set_option linter.unusedVariables false
set_option linter.unusedSimpArgs false

theorem note_idx (l : List UInt8) : (Lib.indexByte l 10 = -1 → Lx.run Lx.note l = l.length) ∧ (∀ n : Nat, Lib.indexByte l 10 = n → Lx.run Lx.note l = n ∧ n ≤ l.length) := by
  constructor
  · intro h
    refine Lx.run_all _ _ fun b hb => ?_
    obtain ⟨k, hk⟩ := List.getElem?_of_mem hb
    have := Lib.indexByte_none h k
    rw [hk] at this
    have hne : b ≠ 10 := fun e => this (congrArg some e)
    unfold Lx.note
    rw [beq_eq_false_iff_ne.2 hne]; rfl
  · intro n h
    obtain ⟨hk, hb⟩ := Lib.indexByte_some h
    have hlt : n < l.length := by
      by_cases c : n < l.length
      · exact c
      · rw [List.getElem?_eq_none (by omega)] at hk; cases hk
    refine ⟨Lx.run_at _ _ _ (by omega) (fun j hj => ?_) (fun _ => by rw [List.getD_eq_getElem?_getD, hk]; rfl), by omega⟩
    have h1 := hb j hj
    rw [List.getElem?_eq_getElem (by omega)] at h1
    rw [List.getD_eq_getElem?_getD, List.getElem?_eq_getElem (by omega)]
    have hne : l[j] ≠ 10 := fun e => h1 (congrArg some e)
    unfold Lx.note
    simp only [Option.getD_some]
    rw [beq_eq_false_iff_ne.2 hne]; rfl
set_option maxHeartbeats 8000000 in
set_option maxRecDepth 100000 in
theorem lsplit_any (s : ByteArray) (l : List UInt8) (hl : l = s.data.toList) (hs : l.length ≤ 65536) (w : World) (hM : Glb5 w) :
    Calls Tryz.prog 53 #[.string s] w fun e w' => (∃ r, e = .returned r ∧ spR w' w.heap.size (Lx.split Dy.parse l 0) r) ∧ Below w.heap.size w w' := by
  have hsz : s.size = l.length := by rw [hl]; exact size_data s
  have hg : ∀ i (h : i < s.size), (s[i]'h).toNat = (l.getD i 0).toNat := fun i h => by rw [hl, get_data]
  have hone : ∀ i, i < l.length → ∀ W, Glb5 W → Calls Tryz.prog 102 #[.string (s.extract i s.size)] W fun e w' => e = .returned (exV (Lx.one Dy.parse (l.drop i))) ∧ Below W.heap.size W w' := fun i hi W hW =>
    lone_any (s.extract i s.size) (l.drop i) (by rw [Lib.extract_data, ← hl, List.take_of_length_le (by rw [List.length_drop]; omega)]) (by rw [List.length_drop]; omega) (by rw [List.length_drop]; omega) W hW
  have HS := Lib.hid (And.intro hsz hs)
  have HG := Lib.hid hg
  have HO := Lib.hid hone
  have HM := Lib.hid hM
  have HL := Lib.hid hl
  clear hsz hs hg hl hM hone
  go_enter Tryz.func53, Tryz.ntmps53
  go_wp2_with fail
  go_loopw [5, 6] (fun ov iv wr => ∃ (ts : List Lx.Tk) (i : Nat), i ≤ l.length ∧ iv = .int .i64 (i : Int) ∧ wr.ownsRow w.heap.size 113 5 ov ts.length (tks ts) ∧ Sc.prep ts (Lx.split Dy.parse (l.drop i) i) = Lx.split Dy.parse l 0 ∧ ts.length ≤ i ∧ Below w.heap.size w wr) (fun _ iv _ => l.length - (intOf iv).toNat)
  case atStart => exact ⟨[], 0, by omega, rfl, ⟨rfl, .inl ⟨rfl, rfl⟩⟩, by rw [Sc.prep_nil]; rfl, by simp, Below.refl _ _⟩
  case round =>
    obtain ⟨ts, i, hi, rfl, hown, hpre, htl, BB⟩ := hrel
    have HOWN := Lib.hid hown
    have HP := Lib.hid hpre
    have HT := Lib.hid htl
    have HBB := Lib.hid BB
    clear hown hpre htl BB
    by_cases hlt : i < l.length
    · have i1 : (i : Int) < (s.size : Int) := by have := HS.out.1; omega
      have i0 : (0 : Int) ≤ (i : Int) := by omega
      have i2 : i < s.size := by have := HS.out.1; omega
      have gi : ∀ h : i < s.size, (s[i]'h).toNat = (l.getD i 0).toNat := fun h => HG.out i h
      have HD := Lib.hid (drop_at l i hlt)
      have e1 : IntKind.i64.wrap ((i : Int) + 1) = (i : Int) + 1 := by have := HS.out; rw [IntKind.wrap_i64]; omega
      have HI := Lib.hid hlt
      by_cases c1 : l.getD i 0 = 32 ∨ l.getD i 0 = 10
      · have HP2 : Hid (Sc.prep ts (Lx.split Dy.parse (l.drop (i + 1)) (i + 1)) = Lx.split Dy.parse l 0) := Lib.hid (by rw [← HP.out, HD.out, Lx.split_blank _ _ _ _ c1])
        have hb : (l.getD i 0).toNat = 32 ∨ (l.getD i 0).toNat = 10 := by rcases c1 with h | h <;> rw [h]; exact .inl rfl; exact .inr rfl
        clear c1 hlt hi
        generalize (l.getD i 0).toNat = b at *
        rcases hb with rfl | rfl
        all_goals
          go_wp2_with fail
          exact ⟨⟨ts, i + 1, by have := HI.out; omega, by simp, HOWN.out, HP2.out, by have := HT.out; omega, HBB.out⟩, by have := HI.out; simp [intOf]; omega⟩
      · by_cases c2 : l.getD i 0 = 35
        · have hb : (l.getD i 0).toNat = 35 := by rw [c2]; rfl
          rw [hb] at gi
          have HC := Lib.hid c2
          clear c1 c2 hlt hi hb
          go_wp2_with fail
          have hix := idx_any (s.extract i s.size) 10 wr
          have hsl : (s.extract i s.size).data.toList = l.drop i := by rw [Lib.extract_data, ← HL.out, List.take_of_length_le (by rw [List.length_drop]; have := HS.out; omega)]
          rw [hsl] at hix
          have hrun := note_idx (l.drop i)
          have hd := HD.out
          rw [HC.out] at hd
          have hp : 0 < Lx.run Lx.note (l.drop i) := by rw [hd, Lx.run_cons, if_pos (by decide)]; omega
          have hpre : ∀ j, j = i + Lx.run Lx.note (l.drop i) → Sc.prep ts (Lx.split Dy.parse (l.drop j) j) = Lx.split Dy.parse l 0 := fun j hj => by
            rw [hj, ← HP.out, hd, Lx.split_note, ← hd, List.drop_drop]
          have HPRE := Lib.hid hpre
          have hdl : (l.drop i).length = l.length - i := List.length_drop
          have j2 : (i : Int) ≤ (s.size : Int) := by omega
          rcases Int.lt_or_le (Lib.indexByte (l.drop i) 10) 0 with hneg | hpos
          · have e : Lib.indexByte (l.drop i) 10 = -1 := by have := Lib.indexByte_ge (l.drop i) 10; omega
            rw [e] at hix
            have hr := hrun.1 e
            have HIX := Lib.hid hix
            have HR := Lib.hid (show i + Lx.run Lx.note (l.drop i) = l.length by have := HI.out; omega)
            have hs2 : (s.size : Int) = (l.length : Int) := by have := HS.out.1; omega
            have e3 : IntKind.i64.wrap ((s.size : Int) - (i : Int)) = (s.size : Int) - (i : Int) := by have := HS.out; rw [IntKind.wrap_i64]; omega
            have e4 : IntKind.i64.wrap ((i : Int) + ((s.size : Int) - (i : Int))) = (l.length : Int) := by have := HS.out; rw [IntKind.wrap_i64]; omega
            clear hix hsl hrun hd hp hpre hdl hneg e hr hs2
            go_wp2_with fail
            refine HIX.out.mono ?_
            rintro _ w1 ⟨rfl, rfl⟩
            go_wp2_with fail
            exact ⟨⟨ts, l.length, by omega, by first | rfl | simp, HOWN.out, HPRE.out _ HR.out.symm, by have := HT.out; have := HI.out; omega, HBB.out⟩, by have := HI.out; simp [intOf]; omega⟩
          · obtain ⟨n, hn⟩ : ∃ n : Nat, Lib.indexByte (l.drop i) 10 = n := ⟨(Lib.indexByte (l.drop i) 10).toNat, by omega⟩
            rw [hn] at hix
            obtain ⟨hr, hnl⟩ := hrun.2 n hn
            have HIX := Lib.hid hix
            have HR := Lib.hid (show i + Lx.run Lx.note (l.drop i) = i + n ∧ 0 < n ∧ i + n ≤ l.length by have := HI.out; omega)
            have e4 : IntKind.i64.wrap ((i : Int) + (n : Int)) = (i : Int) + (n : Int) := by have := HS.out; have := HR.out; rw [IntKind.wrap_i64]; omega
            have n0 : ¬ (n : Int) < 0 := by omega
            clear hix hsl hrun hd hp hpre hdl hpos hn hr hnl
            go_wp2_with fail
            refine HIX.out.mono ?_
            rintro _ w1 ⟨rfl, rfl⟩
            go_wp2_with fail
            exact ⟨⟨ts, i + n, by have := HR.out; omega, by first | rfl | simp, HOWN.out, HPRE.out _ HR.out.1.symm, by have := HT.out; have := HR.out; omega, HBB.out⟩, by have := HI.out; have := HR.out; simp [intOf]; omega⟩
        · have k32 : (((l.getD i 0).toNat : Int) == 32) = false := beq_eq_false_iff_ne.2 fun e => c1 (.inl (UInt8.toNat.inj (by show _ = 32; omega)))
          have k10 : (((l.getD i 0).toNat : Int) == 10) = false := beq_eq_false_iff_ne.2 fun e => c1 (.inr (UInt8.toNat.inj (by show _ = 10; omega)))
          have k35 : (((l.getD i 0).toNat : Int) == 35) = false := beq_eq_false_iff_ne.2 fun e => c2 (UInt8.toNat.inj (by show _ = 35; omega))
          have h1 : l.getD i 0 ≠ 32 := fun e => c1 (.inl e)
          have h2 : l.getD i 0 ≠ 10 := fun e => c1 (.inr e)
          have hx := HO.out i hlt
          rcases hone : Lx.one Dy.parse (l.drop i) with e | ⟨t, n⟩
          · rw [hone] at hx
            have HX := Lib.hid (hx wr (HM.out.below HBB.out))
            rw [HD.out] at hone
            have hsp := Lx.split_err Dy.parse _ _ i e h1 h2 c2 hone
            have HE : Hid (Lx.split Dy.parse l 0 = .error (i, e)) := Lib.hid (by rw [← HP.out, HD.out, hsp]; rfl)
            have he0 : ((e : Int) != 0) = true := bne_iff_ne.2 (by have := Lx.one_err Dy.parse _ e hone; omega)
            generalize (l.getD i 0).toNat = b at *
            clear hx hone hsp c1 c2 h1 h2 hlt hi
            unfold exV at HX
            go_wp2_with fail
            refine HX.out.mono ?_
            rintro _ w1 ⟨rfl, hb1⟩
            have HB1 := Lib.hid (below_then HBB.out hb1)
            clear hb1
            go_wp2_with (first | (refine ev_alloc rfl rfl 113 rfl _ zero_tk ?_; intro g w2 hg R1 B1) | (refine ev_store rfl 113 _ _ rfl g (tk Lx.tk0).toArray rfl rfl R1 (tk_info _) rfl (tk_one _) rfl ?_; intro w9 RZ S9))
            have HB2 := Lib.hid (S9.below (below_then HB1.out B1) (Nat.le_trans HB1.out.size hg))
            try rw [Exit.noGoto_ret]
            exact bodyPost_ret (v := .tuple #[.slice none 0 0, .int .i64 (i : Int), .int .i64 (e : Int)]) (by simp [results, Tryz.results53, go_sem]) rfl ⟨⟨_, rfl, by rw [HE.out]; rfl⟩, HB2.out⟩
          · have hnl := Lx.one_len Dy.parse _ (by rw [List.length_drop]; omega) t n hone
            rw [List.length_drop] at hnl
            rw [hone] at hx
            have HX := Lib.hid (hx wr (HM.out.below HBB.out))
            rw [HD.out] at hone
            have hsp := Lx.split_one Dy.parse _ _ i t n h1 h2 c2 hone
            rw [← HD.out, List.drop_drop] at hsp
            have HE : Hid (Sc.prep (ts ++ [t.put i]) (Lx.split Dy.parse (l.drop (i + n)) (i + n)) = Lx.split Dy.parse l 0) := Lib.hid (by rw [← HP.out, hsp, prep_snoc])
            have e2 : IntKind.i64.wrap ((i : Int) + (n : Int)) = (i : Int) + (n : Int) := by have := HS.out; rw [IntKind.wrap_i64]; omega
            have HNL := Lib.hid hnl
            generalize (l.getD i 0).toNat = b at *
            clear hx hone hsp c1 c2 h1 h2 hlt hi hnl
            unfold exV at HX
            go_wp2_with fail
            refine HX.out.mono ?_
            rintro _ w1 ⟨rfl, hb1⟩
            have HB1 := Lib.hid (below_then HBB.out hb1)
            have HO1 := Lib.hid (ownW_below HOWN.out hb1)
            clear hb1
            dsimp only
            have hlt1 := fun k hk => (ownW_lt HO1.out hk : _ ≤ k ∧ k < w1.heap.size)
            have HLT := Lib.hid hlt1
            have HNN := Lib.hid (show ts.length ≤ 65536 by have := HT.out; have := HI.out; have := HS.out; omega)
            clear hlt1
            have hAPP : ∀ (g : Nat) (w2 w9 : World), w1.heap.size ≤ g → Below w1.heap.size w1 w2 → Stored w2 g w9 → Row w9 g (tk t).toArray 113 → ∃ v6 w6, (Builtin.append_ #[102, 102] 102 #[u5, .slice (some ⟨w9.heap.size, 0, none⟩) 1 1]).run Tryz.prog ((w9.setCell ⟨g, 4, none⟩ (.int .i64 (i : Int))).alloc (.cells #[.int .i64 (t.kind : Int), .string ⟨t.text.toArray⟩, .int .i64 t.num, .int .i32 t.day, .int .i64 (i : Int)] 113)) = .ok v6 w6 ∧ w6.ownsRow w.heap.size 113 5 v6 (ts.length + 1) (tks (ts ++ [t.put i])) ∧ Below w.heap.size w w6 := fun g w2 w9 hg B1 S9 RZ => by
              have st := S9.trans (stored_setCell w9 g 4 (.int .i64 (i : Int)))
              have os := ownW_stored (ownW_below HO1.out B1) st (fun e => by have := HLT.out g e; omega)
              have hB := st.below (below_then HB1.out B1) (Nat.le_trans HB1.out.size hg)
              have hsz : (w9.setCell ⟨g, 4, none⟩ (.int .i64 (i : Int))).heap.size = w9.heap.size := by simp [World.setCell]
              obtain ⟨v6, w6, hr, h1, h2⟩ := append_tk ((w9.setCell ⟨g, 4, none⟩ (.int .i64 (i : Int))).alloc (.cells #[.int .i64 (t.kind : Int), .string ⟨t.text.toArray⟩, .int .i64 t.num, .int .i32 t.day, .int .i64 (i : Int)] 113)) w.heap.size 102 u5 ts (own_alloc os _) w9.heap.size (t.put i) (Row.new' _ _ _ hsz.symm) (by have := HNN.out; omega) (by have := hB.size; simp; omega)
              exact ⟨v6, w6, hr, h1, (below_alloc hB _).trans h2⟩
            have HAPP := Lib.hid hAPP
            clear hAPP
            go_wp2_with (first
              | (refine ev_alloc rfl rfl 113 rfl _ zero_tk ?_; intro g w2 hg R1 B1)
              | (refine ev_store rfl 113 _ _ rfl g (tk t).toArray rfl rfl R1 (tk_info _) rfl (tk_one _) rfl ?_; intro w9 RZ S9; have f4 : w9.cell? ⟨g, 4, none⟩ = some (.int .i64 (t.pos : Int)) := RZ.cell 4; have z4 : w9.frozen? ⟨g, 4, none⟩ = false := RZ.frozen 4; have RS : Row (w9.setCell ⟨g, 4, none⟩ (.int .i64 (i : Int))) g #[.int .i64 (t.kind : Int), .string ⟨t.text.toArray⟩, .int .i64 t.num, .int .i32 t.day, .int .i64 (i : Int)] 113 := RZ.set 4 _; obtain ⟨v6, w6, hr6, ho6, hb6⟩ := HAPP.out g w2 w9 hg B1 S9 RZ; have HR6 := Lib.hid hr6; have HO6 := Lib.hid ho6; have HB6 := Lib.hid hb6; clear hr6 ho6 hb6)
              | (refine ev_load rfl rfl 113 (Operand.tmp 8) rfl g rfl RS _ Tryz.underlying113 rfl (tk_info (t.put i)) ?_)
              | (at_builtin; refine ev_run rfl (run_app_op _ _ _ _ rfl rfl rfl HR6.out) ?_))
            have hlen : (ts ++ [t.put i]).length = ts.length + 1 := by simp
            exact ⟨⟨ts ++ [t.put i], i + n, by have := HNL.out; have := HI.out; omega, by simp, by rw [hlen]; exact HO6.out, HE.out, by rw [hlen]; have := HNL.out; have := HT.out; omega, HB6.out⟩, by have := HNL.out; have := HI.out; simp [intOf]; omega⟩
    · obtain rfl : i = l.length := by omega
      have i1 : ¬ (l.length : Int) < (s.size : Int) := by have := HS.out.1; omega
      have hE : Sc.prep ts (.ok [Lx.tk0.put l.length]) = Lx.split Dy.parse l 0 := by
        have := HP.out
        rwa [List.drop_length, Lx.split_nil] at this
      have HE := Lib.hid hE
      have hss : (s.size : Int) = (l.length : Int) := by have := HS.out.1; omega
      obtain ⟨v6, w6, hr6, ho6, hb6⟩ := append_tk (wr.alloc (.cells #[.int .i64 0, .string ⟨#[]⟩, .int .i64 0, .int .i32 0, .int .i64 (l.length : Int)] 113)) w.heap.size 102 u5 ts (own_alloc HOWN.out _) wr.heap.size (Lx.tk0.put l.length) (Row.new wr _ _) (by have := HT.out; have := HS.out; omega) (by have := HBB.out.size; simp; omega)
      have HR6 := Lib.hid hr6
      have HO6 := Lib.hid ho6
      have HB6 := Lib.hid ((below_alloc HBB.out _).trans hb6)
      clear hr6 ho6 hb6 hE hlt hi hss
      go_wp2_with (first | (at_builtin; refine ev_run rfl (run_app_op _ _ _ _ rfl rfl rfl HR6.out) ?_))
      refine bodyPost_ret (v := .tuple #[v6, .int .i64 0, .int .i64 0]) (by simp [results, Tryz.results53, go_sem]) rfl ⟨⟨_, rfl, ?_⟩, HB6.out⟩
      rw [← HE.out]
      exact ⟨_, rfl, by simpa using HO6.out⟩
end Go.Proofs.YtbhjkddjgikaiaaGreatDoor

namespace Go.Proofs.YtbhjkddjgikaiaaGreatDoor
open Go.RowKit
set_option linter.unusedVariables false
set_option linter.unusedSimpArgs false

/-- a row of one's own that isn't empty: where it lies, and its cells -/
theorem own_at {w : World} {B n : Nat} {e : TypeId} {v : Value} {l : List Lx.Tk} (h : w.ownsRow B e 5 v n (tks l)) (hl : 0 < l.length) : ∃ g cap, v = .slice (some ⟨g, 0, none⟩) l.length cap ∧ ∀ i j x, i < l.length → (tk (l.getD i Lx.tk0))[j]? = some x → w.cell? ⟨g, i * 5 + j, none⟩ = some x := by
  obtain ⟨h1, h2⟩ := h
  have hl' : l.length = n := by rw [tks_len] at h1; omega
  rcases h2 with ⟨rfl, rfl⟩ | ⟨g, cap, cur, rfl, _, hh, _, _, hs, ht⟩
  · omega
  · refine ⟨g, cap, by rw [hl'], fun i j v hi hv => ?_⟩
    have hj : j < 5 := by
      by_cases c : j < 5
      · exact c
      · rw [List.getElem?_eq_none (by rw [tk_len]; omega)] at hv; cases hv
    have hg := tks_get l i hi j v hv
    rw [← ht, List.getElem?_take, if_pos (by omega)] at hg
    rw [cell_of_row w g _ cur e _ hh]
    simpa using hg
def l12 : List Lx.Tk := [⟨1, [116, 111], 0, 0, 0⟩, ⟨2, [49, 50], 12, 0, 3⟩, ⟨5, [59], 0, 0, 5⟩, ⟨0, [], 0, 0, 6⟩]
theorem split12 : lexSplit [116, 111, 32, 49, 50, 59] = .ok l12 := by
  show Lx.split Dy.parse [116, 111, 32, 49, 50, 59] 0 = _
  generalize Dy.parse = pd
  kernel_rfl
set_option maxHeartbeats 1000000 in
theorem awake12 (w : World) (hG : Glb5 w) : Calls Tryz.prog 92 #[] w fun e w' => e = .returned (.bool true) ∧ Below w.heap.size w w' := by
  have HG := Lib.hid hG
  have hS := split_any ⟨#[116, 111, 32, 49, 50, 59]⟩ [116, 111, 32, 49, 50, 59] rfl w hG
  rw [split12] at hS
  have HS := Lib.hid hS
  clear hG hS
  go_enter Tryz.func92, Tryz.ntmps92
  go_wp2_with fail
  refine HS.out.mono ?_
  rintro _ w1 ⟨⟨r, rfl, v, rfl, hown⟩, hb⟩
  have HB := Lib.hid hb
  obtain ⟨g, cap, rfl, hc⟩ := own_at hown (by show 0 < 4; omega)
  have c1 : w1.cell? ⟨g, 7, none⟩ = some (.int .i64 12) := hc 1 2 _ (by show 1 < 4; omega) rfl
  have c2 : w1.cell? ⟨g, 11, none⟩ = some (.string ⟨#[59]⟩) := hc 2 1 _ (by show 2 < 4; omega) rfl
  have c3 : w1.cell? ⟨g, 15, none⟩ = some (.int .i64 0) := hc 3 0 _ (by show 3 < 4; omega) rfl
  have hlen : l12.length = 4 := rfl
  rw [hlen]
  clear hb hown hc HS hlen
  go_wp2_with fail
  refine (awake11 w1 (HG.out.below HB.out)).mono ?_
  rintro _ w5 ⟨rfl, hb5⟩
  go_wp2
  go_ret
  exact ⟨rfl, below_then HB.out hb5⟩
end Go.Proofs.YtbhjkddjgikaiaaGreatDoor
