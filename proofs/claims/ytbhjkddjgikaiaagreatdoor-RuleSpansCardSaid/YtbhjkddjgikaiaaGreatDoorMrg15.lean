/-
  Own texts, several in one (EqN, Chart, Way).
-/
import Derived.Test.YtbhjkddjgikaiaaGreatDoorMrg13
import Derived.Test.YtbhjkddjgikaiaaGreatDoorMrg11
import Derived.Test.YtbhjkddjgikaiaaGreatDoorMrg6
import Derived.Maps.AppendAt
namespace Go.Proofs.YtbhjkddjgikaiaaGreatDoor
open Go.RowKit
set_option linter.unusedVariables false
set_option linter.unusedSimpArgs false

set_option maxHeartbeats 1000000 in
set_option maxRecDepth 100000 in
theorem equal_u32 (v1 v2 : Value) (l : List Int) (w : World) (h1 : NsAt .u32 w v1 l) (h2 : NsAt .u32 w v2 l) (hl : l.length ≤ 1000000) :
    Calls Tryz.prog 275 #[v1, v2] w fun e w' => e = .returned (.bool true) ∧ Below w.heap.size w w' := by
  obtain ⟨p1, cap1, rfl, h1⟩ := h1
  obtain ⟨p2, cap2, rfl, h2⟩ := h2
  have H1 := Lib.hid h1
  have H2 := Lib.hid h2
  have HL := Lib.hid hl
  clear h1 h2 hl
  go_enter Tryz.func275, Tryz.ntmps275
  go_wp2_with fail
  go_loopw [13] (fun i wr => ∃ k : Nat, k ≤ l.length ∧ i = .int .i64 k ∧ Below w.heap.size w wr) (fun i _ => l.length - (intOf i).toNat)
  case atStart => exact ⟨0, by omega, rfl, Below.refl _ _⟩
  case round =>
    obtain ⟨k, hk, rfl, BB⟩ := hrel
    have HBB := Lib.hid BB
    clear BB
    by_cases hlt : k < l.length
    · have hk1 : (0 : Int) ≤ (k : Int) := by omega
      have hk2 : (k : Int) < (l.length : Int) := by omega
      obtain ⟨b1, o1, rfl, e1⟩ : ∃ b off, p1 = some ⟨b, off, none⟩ ∧ ∀ i, i < l.length → w.cell? ⟨b, off + i, none⟩ = some (.int .u32 (l.getD i 0)) := by
        rcases H1.out with h | h
        · exact absurd hlt (by rw [h]; simp)
        · exact h
      obtain ⟨b2, o2, rfl, e2⟩ : ∃ b off, p2 = some ⟨b, off, none⟩ ∧ ∀ i, i < l.length → w.cell? ⟨b, off + i, none⟩ = some (.int .u32 (l.getD i 0)) := by
        rcases H2.out with h | h
        · exact absurd hlt (by rw [h]; simp)
        · exact h
      have d : ∀ n : QW (fun w' => Below wr.heap.size wr w'), n.w.cell? ⟨b1, o1 + k, none⟩ = some (.int .u32 (l.getD k 0)) := fun n => cell_then (e1 k hlt) (below_then HBB.out n.h)
      have f : ∀ n : QW (fun w' => Below wr.heap.size wr w'), n.w.cell? ⟨b2, o2 + k, none⟩ = some (.int .u32 (l.getD k 0)) := fun n => cell_then (e2 k hlt) (below_then HBB.out n.h)
      generalize l.getD k 0 = x at *
      clear e1 e2
      go_wp2_with fail
      refine region_quietS (fun w' => Below wr.heap.size wr w') (by kernel_rfl) (by kernel_rfl) (below_dr (Below.refl _ _)) (fun hne => ?_)
      repeat (go_big_quiet_step (fail))
      refine wpQuiet_nil ?_
      intro _ hw'
      obtain ⟨⟨wy, S⟩, rfl⟩ := hw'
      clear d f
      have ev : IntKind.i64.wrap ((k : Int) + 1) = ((k + 1 : Nat) : Int) := by have := HL.out; rw [IntKind.wrap_i64]; omega
      go_wp2_with fail
      exact ⟨⟨k + 1, by omega, rfl, below_then HBB.out S⟩, by simp [intOf]; omega⟩
    · obtain rfl : k = l.length := by omega
      have hk0 : ¬ ((l.length : Int) < (l.length : Int)) := by omega
      go_wp2
      go_ret
      exact ⟨rfl, HBB.out⟩
set_option maxHeartbeats 1000000 in
set_option maxRecDepth 100000 in
theorem equal_u16 (v1 v2 : Value) (l : List Int) (w : World) (h1 : NsAt .u16 w v1 l) (h2 : NsAt .u16 w v2 l) (hl : l.length ≤ 1000000) :
    Calls Tryz.prog 33 #[v1, v2] w fun e w' => e = .returned (.bool true) ∧ Below w.heap.size w w' := by
  obtain ⟨p1, cap1, rfl, h1⟩ := h1
  obtain ⟨p2, cap2, rfl, h2⟩ := h2
  have H1 := Lib.hid h1
  have H2 := Lib.hid h2
  have HL := Lib.hid hl
  clear h1 h2 hl
  go_enter Tryz.func33, Tryz.ntmps33
  go_wp2_with fail
  go_loopw [13] (fun i wr => ∃ k : Nat, k ≤ l.length ∧ i = .int .i64 k ∧ Below w.heap.size w wr) (fun i _ => l.length - (intOf i).toNat)
  case atStart => exact ⟨0, by omega, rfl, Below.refl _ _⟩
  case round =>
    obtain ⟨k, hk, rfl, BB⟩ := hrel
    have HBB := Lib.hid BB
    clear BB
    by_cases hlt : k < l.length
    · have hk1 : (0 : Int) ≤ (k : Int) := by omega
      have hk2 : (k : Int) < (l.length : Int) := by omega
      obtain ⟨b1, o1, rfl, e1⟩ : ∃ b off, p1 = some ⟨b, off, none⟩ ∧ ∀ i, i < l.length → w.cell? ⟨b, off + i, none⟩ = some (.int .u16 (l.getD i 0)) := by
        rcases H1.out with h | h
        · exact absurd hlt (by rw [h]; simp)
        · exact h
      obtain ⟨b2, o2, rfl, e2⟩ : ∃ b off, p2 = some ⟨b, off, none⟩ ∧ ∀ i, i < l.length → w.cell? ⟨b, off + i, none⟩ = some (.int .u16 (l.getD i 0)) := by
        rcases H2.out with h | h
        · exact absurd hlt (by rw [h]; simp)
        · exact h
      have d : ∀ n : QW (fun w' => Below wr.heap.size wr w'), n.w.cell? ⟨b1, o1 + k, none⟩ = some (.int .u16 (l.getD k 0)) := fun n => cell_then (e1 k hlt) (below_then HBB.out n.h)
      have f : ∀ n : QW (fun w' => Below wr.heap.size wr w'), n.w.cell? ⟨b2, o2 + k, none⟩ = some (.int .u16 (l.getD k 0)) := fun n => cell_then (e2 k hlt) (below_then HBB.out n.h)
      generalize l.getD k 0 = x at *
      clear e1 e2
      go_wp2_with fail
      refine region_quietS (fun w' => Below wr.heap.size wr w') (by kernel_rfl) (by kernel_rfl) (below_dr (Below.refl _ _)) (fun hne => ?_)
      repeat (go_big_quiet_step (fail))
      refine wpQuiet_nil ?_
      intro _ hw'
      obtain ⟨⟨wy, S⟩, rfl⟩ := hw'
      clear d f
      have ev : IntKind.i64.wrap ((k : Int) + 1) = ((k + 1 : Nat) : Int) := by have := HL.out; rw [IntKind.wrap_i64]; omega
      go_wp2_with fail
      exact ⟨⟨k + 1, by omega, rfl, below_then HBB.out S⟩, by simp [intOf]; omega⟩
    · obtain rfl : k = l.length := by omega
      have hk0 : ¬ ((l.length : Int) < (l.length : Int)) := by omega
      go_wp2
      go_ret
      exact ⟨rfl, HBB.out⟩
set_option maxHeartbeats 1000000 in
set_option maxRecDepth 100000 in
theorem equal_byte (v1 v2 : Value) (l : List Int) (w : World) (h1 : NsAt .u8 w v1 l) (h2 : NsAt .u8 w v2 l) (hl : l.length ≤ 1000000) :
    Calls Tryz.prog 187 #[v1, v2] w fun e w' => e = .returned (.bool true) ∧ Below w.heap.size w w' := by
  obtain ⟨p1, cap1, rfl, h1⟩ := h1
  obtain ⟨p2, cap2, rfl, h2⟩ := h2
  have H1 := Lib.hid h1
  have H2 := Lib.hid h2
  have HL := Lib.hid hl
  clear h1 h2 hl
  go_enter Tryz.func187, Tryz.ntmps187
  go_wp2_with fail
  go_loopw [13] (fun i wr => ∃ k : Nat, k ≤ l.length ∧ i = .int .i64 k ∧ Below w.heap.size w wr) (fun i _ => l.length - (intOf i).toNat)
  case atStart => exact ⟨0, by omega, rfl, Below.refl _ _⟩
  case round =>
    obtain ⟨k, hk, rfl, BB⟩ := hrel
    have HBB := Lib.hid BB
    clear BB
    by_cases hlt : k < l.length
    · have hk1 : (0 : Int) ≤ (k : Int) := by omega
      have hk2 : (k : Int) < (l.length : Int) := by omega
      obtain ⟨b1, o1, rfl, e1⟩ : ∃ b off, p1 = some ⟨b, off, none⟩ ∧ ∀ i, i < l.length → w.cell? ⟨b, off + i, none⟩ = some (.int .u8 (l.getD i 0)) := by
        rcases H1.out with h | h
        · exact absurd hlt (by rw [h]; simp)
        · exact h
      obtain ⟨b2, o2, rfl, e2⟩ : ∃ b off, p2 = some ⟨b, off, none⟩ ∧ ∀ i, i < l.length → w.cell? ⟨b, off + i, none⟩ = some (.int .u8 (l.getD i 0)) := by
        rcases H2.out with h | h
        · exact absurd hlt (by rw [h]; simp)
        · exact h
      have d : ∀ n : QW (fun w' => Below wr.heap.size wr w'), n.w.cell? ⟨b1, o1 + k, none⟩ = some (.int .u8 (l.getD k 0)) := fun n => cell_then (e1 k hlt) (below_then HBB.out n.h)
      have f : ∀ n : QW (fun w' => Below wr.heap.size wr w'), n.w.cell? ⟨b2, o2 + k, none⟩ = some (.int .u8 (l.getD k 0)) := fun n => cell_then (e2 k hlt) (below_then HBB.out n.h)
      generalize l.getD k 0 = x at *
      clear e1 e2
      go_wp2_with fail
      refine region_quietS (fun w' => Below wr.heap.size wr w') (by kernel_rfl) (by kernel_rfl) (below_dr (Below.refl _ _)) (fun hne => ?_)
      repeat (go_big_quiet_step (fail))
      refine wpQuiet_nil ?_
      intro _ hw'
      obtain ⟨⟨wy, S⟩, rfl⟩ := hw'
      clear d f
      have ev : IntKind.i64.wrap ((k : Int) + 1) = ((k + 1 : Nat) : Int) := by have := HL.out; rw [IntKind.wrap_i64]; omega
      go_wp2_with fail
      exact ⟨⟨k + 1, by omega, rfl, below_then HBB.out S⟩, by simp [intOf]; omega⟩
    · obtain rfl : k = l.length := by omega
      have hk0 : ¬ ((l.length : Int) < (l.length : Int)) := by omega
      go_wp2
      go_ret
      exact ⟨rfl, HBB.out⟩
end Go.Proofs.YtbhjkddjgikaiaaGreatDoor

namespace Go.Proofs.YtbhjkddjgikaiaaGreatDoor
open Go.RowKit
set_option linter.unusedVariables false
set_option linter.unusedSimpArgs false

structure Ac where
  code : Nat
  name : ByteArray
  kind : Nat
  par : Nat
def ac (x : Ac) : List Value := [.int .u32 (x.code : Int), .string x.name, .int .u8 (x.kind : Int), .int .u32 (x.par : Int)]
theorem ac_one (x : Ac) : (ac x).toArray.all (·.oneCell') = true := by simp [ac, Value.oneCell']
theorem ac_info (x : Ac) : (Tryz.prog.info? 80).map (·.size) = some (ac x).toArray.size := by show _ = some 4; kernel_rfl
def ac0 : Ac := ⟨0, ByteArray.empty, 0, 0⟩
def Ac.cmp (x : Ac) (n : Nat) : Int := if x.code < n then -1 else if n < x.code then 1 else 0
theorem find1_any (x : Ac) (n : Nat) (w : World) : Calls Tryz.prog 215 #[.agg (ac x).toArray, .int .u32 (n : Int)] w fun e w' => e = .returned (.int .i64 (x.cmp n)) ∧ Below w.heap.size w w' := by
  have hB := below_alloc (Below.refl _ w) (.cells (ac x).toArray 80)
  unfold ac at *
  rcases Nat.lt_trichotomy x.code n with h | h | h
  · have e : x.cmp n = -1 := by unfold Ac.cmp; rw [if_pos h]
    have h1 : (x.code : Int) < (n : Int) := by omega
    rw [e]
    clear h e
    go_enter Tryz.func215, Tryz.ntmps215
    go_wp2_with fail
    go_ret
    exact ⟨rfl, hB⟩
  · have e : x.cmp n = 0 := by unfold Ac.cmp; rw [if_neg (by omega), if_neg (by omega)]
    have h1 : ¬ (x.code : Int) < (n : Int) := by omega
    have h2 : ¬ (n : Int) < (x.code : Int) := by omega
    rw [e]
    clear h e
    go_enter Tryz.func215, Tryz.ntmps215
    go_wp2_with fail
    go_ret
    exact ⟨rfl, hB⟩
  · have e : x.cmp n = 1 := by unfold Ac.cmp; rw [if_neg (by omega), if_pos h]
    have h1 : ¬ (x.code : Int) < (n : Int) := by omega
    have h2 : (n : Int) < (x.code : Int) := by omega
    rw [e]
    clear h e
    go_enter Tryz.func215, Tryz.ntmps215
    go_wp2_with fail
    go_ret
    exact ⟨rfl, hB⟩
/-- i accounts have codes below n, and they stand first -/
def PosOf (l : List Ac) (n i : Nat) : Prop := i ≤ l.length ∧ (∀ t, t < i → (l.getD t ac0).code < n) ∧ ∀ t, i ≤ t → t < l.length → n ≤ (l.getD t ac0).code
set_option maxHeartbeats 1000000 in
set_option maxRecDepth 100000 in
theorem search_any (a : Option Addr) (cap : Nat) (l : List Ac) (n i : Nat) (w : World) (hE : ElsAt ac 4 ac0 w a l) (hl : l.length ≤ 1000000) (hp : PosOf l n i) :
    Calls Tryz.prog 214 #[.slice a l.length cap, .int .u32 (n : Int), .func (.func 215) #[] #[]] w fun e w' =>
      e = .returned (.tuple #[.int .i64 (i : Int), .bool (decide (i < l.length) && decide ((l.getD i ac0).code = n))]) ∧ Below w.heap.size w w' := by
  have HE := Lib.hid hE
  have HL := Lib.hid hl
  have HP := Lib.hid hp
  clear hE hl hp
  go_enter Tryz.func214, Tryz.ntmps214
  go_wp2_with fail
  go_loopw [9, 10] (fun iv jv wr => ∃ p q : Nat, iv = .int .i64 (p : Int) ∧ jv = .int .i64 (q : Int) ∧ p ≤ i ∧ i ≤ q ∧ q ≤ l.length ∧ Below w.heap.size w wr) (fun iv jv _ => (intOf jv).toNat - (intOf iv).toNat)
  case atStart => exact ⟨0, l.length, rfl, rfl, by omega, HP.out.1, by omega, Below.refl _ _⟩
  case round =>
    obtain ⟨p, q, rfl, rfl, h1, h2, h3, BB⟩ := hrel
    have HBB := Lib.hid BB
    clear BB
    by_cases hpq : p < q
    · have hpqi : (p : Int) < (q : Int) := by omega
      have HH := Lib.hid (And.intro h1 (And.intro h2 (And.intro h3 hpq)))
      obtain ⟨h, hh⟩ : ∃ h, h = (p + q) / 2 := ⟨_, rfl⟩
      have e0 : IntKind.i64.wrap ((p : Int) + (q : Int)) = (p : Int) + (q : Int) := by have := HL.out; rw [IntKind.wrap_i64]; omega
      have e1 : IntKind.u64.wrap ((p : Int) + (q : Int)) = (p : Int) + (q : Int) := by have := HL.out; rw [IntKind.wrap_u64]; omega
      have e2 : ((p : Int) + (q : Int)) / 2 = (h : Int) := by omega
      have e3 : IntKind.i64.wrap (h : Int) = (h : Int) := by have := HL.out; rw [IntKind.wrap_i64]; omega
      have hlt : h < l.length := by omega
      have hk1 : (0 : Int) ≤ (h : Int) := by omega
      have hk2 : (h : Int) < (l.length : Int) := by omega
      have HQ := Lib.hid (And.intro hh hlt)
      obtain ⟨bl, off, rfl, hcells⟩ : ∃ bl off, a = some ⟨bl, off, none⟩ ∧ ∀ i, i < l.length → w.rangeAt bl (off + i * 4) (ac (l.getD i ac0)) := by
        rcases HE.out with h | h
        · exact absurd hlt (by rw [h]; simp)
        · exact h
      have HLT := Lib.hid (HP.out.2.1 h)
      have HGE := Lib.hid (fun hi => HP.out.2.2 h hi hlt)
      have RX := range_below (hcells h hlt) HBB.out
      generalize l.getD h ac0 = x at *
      have c0 : wr.cell? ⟨bl, off + h * 4, none⟩ = some (.int .u32 (x.code : Int)) := RX 0 _ rfl
      have c1 : wr.cell? ⟨bl, off + h * 4 + 1, none⟩ = some (.string x.name) := RX 1 _ rfl
      have c2 : wr.cell? ⟨bl, off + h * 4 + 2, none⟩ = some (.int .u8 (x.kind : Int)) := RX 2 _ rfl
      have c3 : wr.cell? ⟨bl, off + h * 4 + 3, none⟩ = some (.int .u32 (x.par : Int)) := RX 3 _ rfl
      clear h1 h2 h3 hpq hh hlt hcells RX
      go_wp2_with fail
      refine (find1_any x n wr).mono ?_
      rintro _ w1 ⟨rfl, hb1⟩
      have HB1 := Lib.hid (below_then HBB.out hb1)
      clear hb1 c0 c1 c2 c3
      by_cases hc : x.code < n
      · have hi : h < i := by
          by_cases c : h < i
          · exact c
          · have := HGE.out (by omega)
            omega
        rw [show x.cmp n = -1 by unfold Ac.cmp; rw [if_pos hc]]
        have ev : IntKind.i64.wrap ((h : Int) + 1) = ((h + 1 : Nat) : Int) := by have := HL.out; have := HQ.out; rw [IntKind.wrap_i64]; omega
        clear hc
        go_wp2_with fail
        have := HH.out
        have := HQ.out
        exact ⟨⟨h + 1, q, by push_cast; rfl, rfl, by omega, by omega, by omega, HB1.out⟩, by simp [intOf]; omega⟩
      · have hi : i ≤ h := by
          by_cases c : i ≤ h
          · exact c
          · exact absurd (HLT.out (by omega)) hc
        have hneg : ¬ x.cmp n < 0 := by unfold Ac.cmp; rw [if_neg hc]; split <;> omega
        generalize x.cmp n = cm at *
        clear hc
        go_wp2_with fail
        have := HH.out
        have := HQ.out
        exact ⟨⟨p, h, rfl, rfl, by omega, by omega, by omega, HB1.out⟩, by simp [intOf]; omega⟩
    · obtain rfl : p = i := by omega
      obtain rfl : q = p := by omega
      have hqq : ¬ ((q : Int) < (q : Int)) := by omega
      by_cases hlt : q < l.length
      · have hk1 : (0 : Int) ≤ (q : Int) := by omega
        have hk2 : (q : Int) < (l.length : Int) := by omega
        obtain ⟨bl, off, rfl, hcells⟩ : ∃ bl off, a = some ⟨bl, off, none⟩ ∧ ∀ i, i < l.length → w.rangeAt bl (off + i * 4) (ac (l.getD i ac0)) := by
          rcases HE.out with h | h
          · exact absurd hlt (by rw [h]; simp)
          · exact h
        have HQL := Lib.hid hlt
        have HGE := Lib.hid (HP.out.2.2 q (by omega) hlt)
        have RX := range_below (hcells q hlt) HBB.out
        obtain ⟨x, hx⟩ : ∃ x, x = l.getD q ac0 := ⟨_, rfl⟩
        rw [← hx] at HGE RX
        have HX := Lib.hid hx
        clear hx
        have c0 : wr.cell? ⟨bl, off + q * 4, none⟩ = some (.int .u32 (x.code : Int)) := RX 0 _ rfl
        have c1 : wr.cell? ⟨bl, off + q * 4 + 1, none⟩ = some (.string x.name) := RX 1 _ rfl
        have c2 : wr.cell? ⟨bl, off + q * 4 + 2, none⟩ = some (.int .u8 (x.kind : Int)) := RX 2 _ rfl
        have c3 : wr.cell? ⟨bl, off + q * 4 + 3, none⟩ = some (.int .u32 (x.par : Int)) := RX 3 _ rfl
        clear h1 h2 h3 hpq hlt hcells RX
        go_wp2_with fail
        refine (find1_any x n wr).mono ?_
        rintro _ w1 ⟨rfl, hb1⟩
        have HB1 := Lib.hid (below_then HBB.out hb1)
        have hz : Hid ((x.cmp n == 0) = decide (x.code = n)) := Lib.hid (by
          have := HGE.out
          unfold Ac.cmp
          by_cases c : x.code = n
          · rw [if_neg (by omega), if_neg (by omega), decide_eq_true c]; rfl
          · rw [if_neg (by omega), if_pos (by omega), decide_eq_false c]; rfl)
        clear hb1 c0 c1 c2 c3
        generalize x.cmp n = cm at *
        go_wp2_with fail
        refine bodyPost_ret (v := .tuple #[.int .i64 (q : Int), .bool (cm == 0)]) (by simp [results, Tryz.results214, go_sem]) rfl ⟨?_, HB1.out⟩
        rw [hz.out, decide_eq_true HQL.out, Bool.true_and, ← HX.out]
      · have hk2 : ¬ (q : Int) < (l.length : Int) := by omega
        have HQL := Lib.hid hlt
        clear hlt
        go_wp2_with fail
        refine bodyPost_ret (v := .tuple #[.int .i64 (q : Int), .bool false]) (by simp [results, Tryz.results214, go_sem]) rfl ⟨?_, HBB.out⟩
        rw [decide_eq_false HQL.out, Bool.false_and]
theorem find_any (a : Option Addr) (cap : Nat) (l : List Ac) (n i : Nat) (w : World) (hE : ElsAt ac 4 ac0 w a l) (hl : l.length ≤ 1000000) (hp : PosOf l n i) :
    Calls Tryz.prog 173 #[.slice a l.length cap, .int .u32 (n : Int)] w fun e w' =>
      e = .returned (.tuple #[.int .i64 (i : Int), .bool (decide (i < l.length) && decide ((l.getD i ac0).code = n))]) ∧ Below w.heap.size w w' := by
  have HS := Lib.hid (search_any a cap l n i w hE hl hp)
  generalize (decide (i < l.length) && decide ((l.getD i ac0).code = n)) = ok at *
  clear hE hl hp
  go_enter Tryz.func173, Tryz.ntmps173
  go_wp2_with fail
  refine HS.out.mono ?_
  rintro _ w1 ⟨rfl, hb⟩
  go_wp2
  refine bodyPost_ret (v := .tuple #[.int .i64 (i : Int), .bool ok]) (by simp [results, Tryz.results173, go_sem]) rfl ⟨rfl, hb⟩
def getC (l : List Ac) (n : Nat) : Option Ac := l.find? fun x => x.code == n
def AcRise (l : List Ac) : Prop := ∀ i j, i < j → j < l.length → (l.getD i ac0).code < (l.getD j ac0).code
theorem pos_ex (l : List Ac) (n : Nat) (hr : AcRise l) : ∃ i, PosOf l n i := by
  have go : ∀ (m k : Nat), k + m = l.length → (∀ t, t < k → (l.getD t ac0).code < n) → ∃ i, PosOf l n i := fun m => by
    induction m with
    | zero => exact fun k hk h => ⟨k, by omega, h, fun t h1 h2 => by omega⟩
    | succ m ih =>
      intro k hk h
      by_cases c : (l.getD k ac0).code < n
      · exact ih (k + 1) (by omega) (fun t ht => by
          by_cases e : t = k
          · rw [e]; exact c
          · exact h t (by omega))
      · exact ⟨k, by omega, h, fun t h1 h2 => by
          by_cases e : t = k
          · rw [e]; omega
          · have := hr k t (by omega) h2
            omega⟩
  exact go l.length 0 (by omega) (fun t ht => by omega)
theorem getC_pos (l : List Ac) (n i : Nat) (hr : AcRise l) (hp : PosOf l n i) : getC l n = if i < l.length ∧ (l.getD i ac0).code = n then some (l.getD i ac0) else none := by
  unfold getC
  have hget : ∀ t (h : t < l.length), l[t] = l.getD t ac0 := fun t h => by rw [List.getD_eq_getElem?_getD, List.getElem?_eq_getElem h]; rfl
  by_cases c : i < l.length ∧ (l.getD i ac0).code = n
  · rw [if_pos c, ← hget i c.1]
    rw [List.find?_eq_some_iff_getElem]
    refine ⟨by rw [hget i c.1]; simpa using c.2, i, c.1, rfl, fun j hj => ?_⟩
    have := hp.2.1 j hj
    rw [← hget j (by omega)] at this
    have : ¬ l[j].code = n := by omega
    simpa using this
  · rw [if_neg c, List.find?_eq_none]
    intro x hx
    obtain ⟨t, ht, rfl⟩ := List.getElem_of_mem hx
    rw [hget t ht]
    intro e
    have e : (l.getD t ac0).code = n := by simpa using e
    by_cases h1 : t < i
    · have := hp.2.1 t h1; omega
    · have h2 := hp.2.2 t (by omega) ht
      have : i < l.length := by omega
      by_cases h3 : t = i
      · exact c ⟨this, by rw [← h3]; exact e⟩
      · have := hr i t (by omega) ht
        have := hp.2.2 i (by omega) (by omega)
        omega
set_option maxHeartbeats 1000000 in
theorem get_any (a : Option Addr) (cap : Nat) (l : List Ac) (n : Nat) (w : World) (hE : ElsAt ac 4 ac0 w a l) (hl : l.length ≤ 1000000) (hr : AcRise l) :
    Calls Tryz.prog 123 #[.slice a l.length cap, .int .u32 (n : Int)] w fun e w' =>
      e = .returned (.tuple #[.agg (ac ((getC l n).getD ac0)).toArray, .bool (getC l n).isSome]) ∧ Below w.heap.size w w' := by
  obtain ⟨i, hp⟩ := pos_ex l n hr
  have HF := Lib.hid fun W (hb : Below w.heap.size w W) => find_any a cap l n i W (hE.below hb) hl hp
  have HC := Lib.hid (getC_pos l n i hr hp)
  have HE := Lib.hid hE
  have HL := Lib.hid hl
  by_cases c : i < l.length ∧ (l.getD i ac0).code = n
  · rw [HC.out, if_pos c]
    obtain ⟨bl, off, rfl, hcells⟩ : ∃ bl off, a = some ⟨bl, off, none⟩ ∧ ∀ i, i < l.length → w.rangeAt bl (off + i * 4) (ac (l.getD i ac0)) := by
      rcases HE.out with h | h
      · exact absurd c.1 (by rw [h]; simp)
      · exact h
    have RX := hcells i c.1
    have HF2 : Hid (∀ W, Below w.heap.size w W → Calls Tryz.prog 173 #[.slice (some ⟨bl, off, none⟩) l.length cap, .int .u32 (n : Int)] W fun e w' => e = .returned (.tuple #[.int .i64 (i : Int), .bool true]) ∧ Below W.heap.size W w') := Lib.hid fun W hb => by
      have h := HF.out W hb
      rwa [decide_eq_true c.1, decide_eq_true c.2] at h
    clear HF
    have hk1 : (0 : Int) ≤ (i : Int) := by omega
    have hk2 : (i : Int) < (l.length : Int) := by omega
    show Calls _ _ _ _ fun e w' => e = .returned (.tuple #[.agg (ac (l.getD i ac0)).toArray, .bool true]) ∧ _
    generalize l.getD i ac0 = x at *
    unfold ac at RX ⊢
    have hB := Lib.hid (below_alloc (Below.refl _ w) (.cells (ac ac0).toArray 80))
    clear hp HC HE hcells hE hl hr c
    go_enter Tryz.func123, Tryz.ntmps123
    go_wp2_with fail
    refine (HF2.out _ hB.out).mono ?_
    rintro _ w1 ⟨rfl, hb⟩
    have RG := (Row.new w (ac ac0).toArray 80).below hb
    have RY := range_below (range_below RX hB.out) hb
    have c0 : w1.cell? ⟨bl, off + i * 4, none⟩ = some (.int .u32 (x.code : Int)) := RY 0 _ rfl
    have c1 : w1.cell? ⟨bl, off + i * 4 + 1, none⟩ = some (.string x.name) := RY 1 _ rfl
    have c2 : w1.cell? ⟨bl, off + i * 4 + 2, none⟩ = some (.int .u8 (x.kind : Int)) := RY 2 _ rfl
    have c3 : w1.cell? ⟨bl, off + i * 4 + 3, none⟩ = some (.int .u32 (x.par : Int)) := RY 3 _ rfl
    have HBB := Lib.hid (below_then hB.out hb)
    obtain ⟨g, hg⟩ : ∃ g, g = w.heap.size := ⟨_, rfl⟩
    rw [← hg] at RG ⊢
    have HGG := Lib.hid hg
    clear hb RX RY HF2 hB hg
    go_wp2_with (first | (refine ev_store rfl 80 _ _ rfl g (ac x).toArray rfl rfl RG (ac_info x) rfl (ac_one x) rfl ?_; intro w2 RZ S2))
    have d0 : w2.cell? ⟨g, 0, none⟩ = some (.int .u32 (x.code : Int)) := RZ.cell 0
    have d1 : w2.cell? ⟨g, 1, none⟩ = some (.string x.name) := RZ.cell 1
    have d2 : w2.cell? ⟨g, 2, none⟩ = some (.int .u8 (x.kind : Int)) := RZ.cell 2
    have d3 : w2.cell? ⟨g, 3, none⟩ = some (.int .u32 (x.par : Int)) := RZ.cell 3
    refine bodyPost_ret (v := .tuple #[.agg (ac x).toArray, .bool true]) (by simp [results, Tryz.results123, go_sem, ac, d0, d1, d2, d3]) rfl ⟨rfl, S2.below HBB.out (by rw [HGG.out]; exact Nat.le_refl _)⟩
  · rw [HC.out, if_neg c]
    have HF2 : Hid (∀ W, Below w.heap.size w W → Calls Tryz.prog 173 #[.slice a l.length cap, .int .u32 (n : Int)] W fun e w' => e = .returned (.tuple #[.int .i64 (i : Int), .bool false]) ∧ Below W.heap.size W w') := Lib.hid fun W hb => by
      have h := HF.out W hb
      have e : (decide (i < l.length) && decide ((l.getD i ac0).code = n)) = false := by rw [← Bool.decide_and, decide_eq_false c]
      rwa [e] at h
    have hB := Lib.hid (below_alloc (Below.refl _ w) (.cells (ac ac0).toArray 80))
    clear HF hp HC HE hE hl hr c
    show Calls _ _ _ _ fun e w' => e = .returned (.tuple #[.agg (ac ac0).toArray, .bool false]) ∧ _
    go_enter Tryz.func123, Tryz.ntmps123
    go_wp2_with fail
    refine (HF2.out _ hB.out).mono ?_
    rintro _ w1 ⟨rfl, hb⟩
    have RG := (Row.new w (ac ac0).toArray 80).below hb
    have HBB := Lib.hid (below_then hB.out hb)
    obtain ⟨g, hg⟩ : ∃ g, g = w.heap.size := ⟨_, rfl⟩
    rw [← hg] at RG ⊢
    have HGG := Lib.hid hg
    clear hb HF2 hB hg
    go_wp2_with (first | (refine ev_store rfl 80 _ _ rfl g (ac ac0).toArray rfl rfl RG (ac_info ac0) rfl (ac_one ac0) rfl ?_; intro w2 RZ S2))
    have d0 : w2.cell? ⟨g, 0, none⟩ = some (.int .u32 0) := RZ.cell 0
    have d1 : w2.cell? ⟨g, 1, none⟩ = some (.string ByteArray.empty) := RZ.cell 1
    have d2 : w2.cell? ⟨g, 2, none⟩ = some (.int .u8 0) := RZ.cell 2
    have d3 : w2.cell? ⟨g, 3, none⟩ = some (.int .u32 0) := RZ.cell 3
    refine bodyPost_ret (v := .tuple #[.agg (ac ac0).toArray, .bool false]) (by simp [results, Tryz.results123, go_sem, ac, ac0, d0, d1, d2, d3]) rfl ⟨rfl, S2.below HBB.out (by rw [HGG.out]; exact Nat.le_refl _)⟩
end Go.Proofs.YtbhjkddjgikaiaaGreatDoor

namespace Go.Proofs.YtbhjkddjgikaiaaGreatDoor
open Go.RowKit
set_option linter.unusedVariables false
set_option linter.unusedSimpArgs false

def uv (l : List Nat) : List Value := l.map fun (n : Nat) => .int .u32 (n : Int)
/-- the codes of an account, of the one that it lies in, and so on: at most so many -/
def wayO (l : List Ac) : Nat → Option Ac → List Nat
  | 0, _ => []
  | _ + 1, none => []
  | f + 1, some a => a.code :: wayO l f (getC l a.par)
theorem ownW_below {w w' : World} {B n size : Nat} {e : TypeId} {v : Value} {xs : List Value} (h : w.ownsRow B e size v n xs) (hb : Below w.heap.size w w') : w'.ownsRow B e size v n xs := by
  refine ⟨h.1, ?_⟩
  rcases h.2 with h2 | ⟨g, cap, cur, e1, e2, e3, e4⟩
  · exact .inl h2
  · have hlt : g < w.heap.size := by
      by_cases c : g < w.heap.size
      · exact c
      · rw [Array.getElem?_eq_none (by omega)] at e3; cases e3
    exact .inr ⟨g, cap, cur, e1, e2, (hb.block g hlt).trans e3, e4⟩
theorem ownW_lt {w : World} {B n size g : Nat} {e : TypeId} {v : Value} {xs : List Value} (h : w.ownsRow B e size v n xs) (hg : v.ownBlock = some g) : B ≤ g ∧ g < w.heap.size := by
  rcases h.2 with ⟨rfl, _⟩ | ⟨g', cap, cur, rfl, e2, e3, _⟩
  · simp [Value.ownBlock] at hg
  · simp [Value.ownBlock] at hg
    subst hg
    refine ⟨e2, ?_⟩
    by_cases c : g' < w.heap.size
    · exact c
    · rw [Array.getElem?_eq_none (by omega)] at e3; cases e3
theorem ownW_stored {w w' : World} {B n size g : Nat} {e : TypeId} {v : Value} {xs : List Value} (h : w.ownsRow B e size v n xs) (hs : Stored w g w') (hg : v.ownBlock ≠ some g) : w'.ownsRow B e size v n xs := by
  refine ⟨h.1, ?_⟩
  rcases h.2 with h2 | ⟨g', cap, cur, rfl, e2, e3, e4⟩
  · exact .inl h2
  · refine .inr ⟨g', cap, cur, rfl, e2, (hs.other g' ?_).trans e3, e4⟩
    intro e
    subst e
    exact hg rfl
theorem info_u32 : ∃ i, Tryz.prog.info? 41 = some i ∧ i.zero = some (.int .u32 0) ∧ i.size = 1 ∧ i.bytes = 4 := by
  have h : (Tryz.prog.info? 41).map (fun i => (i.zero, i.size, i.bytes)) = some (some (.int .u32 0), 1, 4) := by kernel_rfl
  obtain ⟨i, hi, h⟩ := Option.map_eq_some_iff.1 h
  simp only [Prod.mk.injEq] at h
  exact ⟨i, hi, h.1, h.2.1, h.2.2⟩
def slLen : Value → Nat
  | .slice _ n _ => n
  | _ => 0
theorem own_slice {w : World} {B n size : Nat} {e : TypeId} {v : Value} {xs : List Value} (h : w.ownsRow B e size v n xs) : ∃ p c, v = .slice p n c := by
  rcases h.2 with ⟨rfl, rfl⟩ | ⟨g, cap, cur, rfl, _⟩
  · exact ⟨none, 0, rfl⟩
  · exact ⟨_, cap, rfl⟩
theorem wayO_none (l : List Ac) (f : Nat) : wayO l f none = [] := by cases f <;> rfl
theorem uv_app (l m : List Nat) : uv (l ++ m) = uv l ++ uv m := by simp [uv]
set_option maxHeartbeats 2000000 in
set_option maxRecDepth 100000 in
theorem way_any (a : Option Addr) (cap : Nat) (l : List Ac) (n : Nat) (w : World) (hE : ElsAt ac 4 ac0 w a l) (hl : l.length ≤ 1000000) (hr : AcRise l) :
    Calls Tryz.prog 141 #[.slice a l.length cap, .int .u32 (n : Int)] w fun e w' => ∃ v, e = .returned v ∧ w'.ownsRow w.heap.size 41 1 v (wayO l 13 (getC l n)).length (uv (wayO l 13 (getC l n))) ∧ Below w.heap.size w w' := by
  have GET := Lib.hid fun (m : Nat) W (hb : Below w.heap.size w W) => get_any a cap l m W (hE.below hb) hl hr
  have G0 := Lib.hid (get_any a cap l n w hE hl hr)
  clear hE hl hr
  go_enter Tryz.func141, Tryz.ntmps141
  go_wp2_with fail
  refine G0.out.mono ?_
  rintro _ w1 ⟨rfl, hb⟩
  have HB1 := Lib.hid hb
  clear hb G0
  obtain ⟨cur, hcur⟩ : ∃ c, c = getC l n := ⟨_, rfl⟩
  rw [← hcur]
  have HC := Lib.hid hcur
  clear hcur
  unfold ac
  go_wp2_with fail
  have R0 := Row.new w1 (ac (cur.getD ac0)).toArray 80
  have HB2 := Lib.hid (below_alloc HB1.out (.cells (ac (cur.getD ac0)).toArray 80))
  obtain ⟨g0, hg0⟩ : ∃ g, g = w1.heap.size := ⟨_, rfl⟩
  have hgw : w.heap.size ≤ g0 := by rw [hg0]; exact HB1.out.size
  rw [← hg0] at R0 ⊢
  change Row (w1.alloc (.cells #[.int .u32 ((cur.getD ac0).code : Int), .string (cur.getD ac0).name, .int .u8 ((cur.getD ac0).kind : Int), .int .u32 ((cur.getD ac0).par : Int)] 80)) g0 (ac (cur.getD ac0)).toArray _ at R0
  change Hid (Below w.heap.size w (w1.alloc (.cells #[.int .u32 ((cur.getD ac0).code : Int), .string (cur.getD ac0).name, .int .u8 ((cur.getD ac0).kind : Int), .int .u32 ((cur.getD ac0).par : Int)] 80))) at HB2
  generalize w1.alloc (.cells #[.int .u32 ((cur.getD ac0).code : Int), .string (cur.getD ac0).name, .int .u8 ((cur.getD ac0).kind : Int), .int .u32 ((cur.getD ac0).par : Int)] 80) = w2 at *
  have HR0 := Lib.hid R0
  have HGW := Lib.hid hgw
  clear hg0 R0 hgw HB1
  go_loopw [5, 6, 7] (fun sv pv okv wr => ∃ (out : List Nat) (g : Nat) (cu : Option Ac), pv = .pointer (some ⟨g, 0, none⟩) ∧ okv = .bool cu.isSome ∧ Row wr g (ac (cu.getD ac0)).toArray 80 ∧ w.heap.size ≤ g ∧
      wr.ownsRow w.heap.size 41 1 sv out.length (uv out) ∧ sv.ownBlock ≠ some g ∧ out ++ wayO l (13 - out.length) cu = wayO l 13 cur ∧ out.length ≤ 13 ∧ Below w.heap.size w wr) (fun sv _ _ _ => 13 - slLen sv)
  case atStart => exact ⟨[], g0, cur, rfl, rfl, HR0.out, HGW.out, ⟨rfl, .inl ⟨rfl, rfl⟩⟩, by simp [Value.ownBlock], rfl, by simp, HB2.out⟩
  case round =>
    obtain ⟨out, g, cu, rfl, rfl, hR, hg, hown, hne, hfull, hlen, BB⟩ := hrel
    have HR := Lib.hid hR
    have HG := Lib.hid hg
    have HOWN := Lib.hid hown
    have HNE := Lib.hid hne
    have HF := Lib.hid hfull
    have HLN := Lib.hid hlen
    have HBB := Lib.hid BB
    obtain ⟨sp, sc, rfl⟩ := own_slice hown
    clear hR hg hown hne hfull hlen BB HR0 HGW HB2
    rcases cu with _ | x
    · have hf : out = wayO l 13 cur := by have := HF.out; rwa [wayO_none, List.append_nil] at this
      go_wp2_with fail
      go_ret
      rw [← HC.out, ← hf]
      exact ⟨_, rfl, HOWN.out, HBB.out⟩
    · by_cases h12 : out.length ≤ 12
      · have h12i : (out.length : Int) ≤ 12 := by omega
        obtain ⟨inf, hi, h1, h2, h3⟩ := info_u32
        have RR : Row wr g (ac x).toArray 80 := HR.out
        have c0 : wr.cell? ⟨g, 0, none⟩ = some (.int .u32 (x.code : Int)) := RR.cell 0
        have HI := Lib.hid hi
        have H12 := Lib.hid h12
        clear h12 hi
        show Code.wp _ _ _ _ _
        simp only [Option.isSome_some]
        go_wp2_with (first
          | (at_builtin; refine wpList_append_own_at _ rfl _ _ 218 rfl w.heap.size 41 inf (.int .u32 0) 1 4 Tryz.underlying218 HI.out h1 h2 h3 rfl (by decide) (.slice sp out.length sc) out.length (uv out) rfl (own_alloc HOWN.out _) ⟨wr.heap.size, 0, none⟩ 1 1 [.int .u32 (x.code : Int)] rfl rfl (cell_one_new wr _ _) (by simp [Value.oneCell']) (by unfold maxLen; have := H12.out; omega) (by have := H12.out; omega) (by have := HBB.out.size; simp; omega) ?_; intro v2 w6 hown6 hg6 hnil6 hat6; have RR6 : Row w6 g (ac x).toArray 80 := (hg6.block g (by have := RR.lt; simp; omega) (fun e => HNE.out e.symm)).trans (RR.alloc _); have f0 : w6.cell? ⟨g, 0, none⟩ = some (.int .u32 (x.code : Int)) := RR6.cell 0; have f1 : w6.cell? ⟨g, 1, none⟩ = some (.string x.name) := RR6.cell 1; have f2 : w6.cell? ⟨g, 2, none⟩ = some (.int .u8 (x.kind : Int)) := RR6.cell 2; have f3 : w6.cell? ⟨g, 3, none⟩ = some (.int .u32 (x.par : Int)) := RR6.cell 3))
        have HB6 := Lib.hid ((below_alloc HBB.out (.cells #[.int .u32 (x.code : Int)] 41)).grown hg6 (by have := HBB.out.size; simp; omega) (fun k hk => (ownW_lt HOWN.out hk).1))
        have R7 := Row.new w6 (ac x).toArray 80
        have B7 := below_alloc (Below.refl _ w6) (.cells (ac x).toArray 80)
        have hv2 : v2.ownBlock ≠ some w6.heap.size := fun e => by have := (ownW_lt hown6 e).2; omega
        obtain ⟨g7, hg7⟩ : ∃ g, g = w6.heap.size := ⟨_, rfl⟩
        rw [← hg7] at R7 hv2
        rw [← hg7]
        change Row (w6.alloc (.cells #[.int .u32 (x.code : Int), .string x.name, .int .u8 (x.kind : Int), .int .u32 (x.par : Int)] 80)) g7 (ac x).toArray _ at R7
        change Below w6.heap.size w6 (w6.alloc (.cells #[.int .u32 (x.code : Int), .string x.name, .int .u8 (x.kind : Int), .int .u32 (x.par : Int)] 80)) at B7
        have HB7 := Lib.hid (below_then HB6.out B7)
        have HOWN7 := Lib.hid (ownW_below hown6 B7)
        have hg7w : w.heap.size ≤ g7 := by rw [hg7]; exact HB6.out.size
        generalize w6.alloc (.cells #[.int .u32 (x.code : Int), .string x.name, .int .u8 (x.kind : Int), .int .u32 (x.par : Int)] 80) = w7 at *
        have e3 : w7.cell? ⟨g7, 3, none⟩ = some (.int .u32 (x.par : Int)) := R7.cell 3
        clear f0 f1 f2 f3 RR6 B7 hg7 hg6 hown6 hnil6 hat6 c0 RR h1 h2 h3 h12i
        go_wp2_with fail
        refine (GET.out x.par w7 HB7.out).mono ?_
        rintro _ w8 ⟨rfl, hb8⟩
        have HB8 := Lib.hid (below_then HB7.out hb8)
        have R8 := R7.below hb8
        have HOWN8 := Lib.hid (ownW_below HOWN7.out hb8)
        obtain ⟨nx, hnx⟩ : ∃ c, c = getC l x.par := ⟨_, rfl⟩
        rw [← hnx]
        have HNX := Lib.hid hnx
        have HV2 := Lib.hid hv2
        have HG7 := Lib.hid hg7w
        clear hb8 R7 e3 hnx hv2 hg7w HB7 HOWN7
        go_wp2_with (first | (refine ev_store rfl 80 _ _ rfl g7 (ac (nx.getD ac0)).toArray rfl rfl R8 (ac_info _) rfl (ac_one _) rfl ?_; intro w9 RZ S9))
        have hl13 := H12.out
        have hs2 : ∃ p c, v2 = .slice p (out.length + 1) c := own_slice HOWN8.out
        refine ⟨⟨out ++ [x.code], g7, nx, rfl, rfl, RZ, HG7.out, ?_, HV2.out, ?_, by simp; omega, S9.below HB8.out HG7.out⟩, ?_⟩
        · have h := ownW_stored HOWN8.out S9 HV2.out
          rw [uv_app, List.length_append]
          exact h
        · have h := HF.out
          obtain ⟨f, hf⟩ : ∃ f, 13 - out.length = f + 1 := ⟨12 - out.length, by omega⟩
          rw [hf] at h
          rw [← h, List.append_assoc, List.length_append, show 13 - (out.length + [x.code].length) = f by simp; omega, HNX.out]
          rfl
        · obtain ⟨p2, c2, rfl⟩ := hs2
          simp [slLen]
          omega
      · have h13 : out.length = 13 := by have := HLN.out; omega
        have h12i : ¬ (out.length : Int) ≤ 12 := by omega
        have hf : out = wayO l 13 cur := by
          have h := HF.out
          rw [h13, show 13 - 13 = 0 from rfl] at h
          have e : wayO l 0 (some x) = [] := rfl
          rwa [e, List.append_nil] at h
        have HF3 := Lib.hid hf
        clear h12 hf h13
        simp only [Option.isSome_some]
        go_wp2_with fail
        go_ret
        rw [← HC.out, ← HF3.out]
        exact ⟨_, rfl, HOWN.out, HBB.out⟩
end Go.Proofs.YtbhjkddjgikaiaaGreatDoor
