/-
  Own texts, several in one (Same13b, Same13c, Same13d).
-/
import Derived.Test.YtbnhodpbamijkaaGreatDoorOwnCnt13
import Derived.Test.YtbnhodpbamijkaaGreatDoorOwnElsG
namespace Go.Proofs.YtbnhodpbamijkaaGreatDoor
open Go.RowKit
set_option linter.unusedVariables false
set_option linter.unusedSimpArgs false

set_option maxHeartbeats 2000000 in
set_option maxRecDepth 100000 in
theorem csame_any (v1 v2 : Value) (l m : List Int) (f g : Int) (w : World) (h1 : NsAt .i32 w v1 l) (h2 : NsAt .i32 w v2 m) (hl : l.length ≤ 1000000) :
    Calls Tryz.prog 70 #[.agg #[v1, .int .i32 f], .agg #[v2, .int .i32 g]] w fun e w' => e = .returned (.bool (decide (f = g) && decide (l = m))) ∧ Below w.heap.size w w' := by
  obtain ⟨p1, k1, rfl, h1⟩ := h1
  obtain ⟨p2, k2, rfl, h2⟩ := h2
  have RA := (Row.new w #[.slice p1 l.length k1, .int .i32 f] 51).alloc (.cells #[.slice p2 m.length k2, .int .i32 g] 51)
  have RB := Row.new (w.alloc (.cells #[.slice p1 l.length k1, .int .i32 f] 51)) #[.slice p2 m.length k2, .int .i32 g] 51
  have hsz : (w.alloc (.cells #[.slice p1 l.length k1, .int .i32 f] 51)).heap.size = w.heap.size + 1 := by simp
  rw [hsz] at RB
  have BB := below_alloc (below_alloc (Below.refl _ w) (.cells #[.slice p1 l.length k1, .int .i32 f] 51)) (.cells #[.slice p2 m.length k2, .int .i32 g] 51)
  have hc : Calls Tryz.prog 91 #[.slice p1 l.length k1, .slice p2 m.length k2] ((w.alloc (.cells #[.slice p1 l.length k1, .int .i32 f] 51)).alloc (.cells #[.slice p2 m.length k2, .int .i32 g] 51)) _ := equal_days p1 p2 k1 k2 l m _ (by
    rcases h1 with h | ⟨b, off, e, h⟩
    · exact .inl h
    · exact .inr ⟨b, off, e, fun i hi => cell_then (h i hi) BB⟩) (by
    rcases h2 with h | ⟨b, off, e, h⟩
    · exact .inl h
    · exact .inr ⟨b, off, e, fun i hi => cell_then (h i hi) BB⟩) hl
  have HC := Lib.hid hc
  have HB := Lib.hid BB
  have a0 := RA.cell 0
  have a1 := RA.cell 1
  have b0 := RB.cell 0
  have b1 := RB.cell 1
  simp at a0 a1 b0 b1
  clear RA RB BB hc h1 h2 hsz
  by_cases hfg : f = g
  · subst hfg
    go_enter Tryz.func70, Tryz.ntmps70
    go_wp2_with fail
    refine HC.out.mono ?_
    rintro _ w2 ⟨rfl, hb⟩
    go_wp2_with fail
    go_ret
    exact ⟨by simp, below_then HB.out hb⟩
  · have hd : decide (f = g) = false := decide_eq_false hfg
    go_enter Tryz.func70, Tryz.ntmps70
    go_wp2_with fail
    go_ret
    exact ⟨by simp [hfg], HB.out⟩
end Go.Proofs.YtbnhodpbamijkaaGreatDoor

namespace Go.Proofs.YtbnhodpbamijkaaGreatDoor
open Go.RowKit
set_option linter.unusedVariables false
set_option linter.unusedSimpArgs false
/-- alike, but for where they stand -/
def Sc.sameB (o p : Sc.Op) : Bool := decide (o.kind = p.kind) && (decide (o.fr = p.fr) && (decide (o.too = p.too) && (decide (o.name = p.name) && (decide (o.parts = p.parts) && (decide (o.fin = p.fin) && decide (o.starts = p.starts))))))
theorem Sc.sameB_iff (o p : Sc.Op) : Sc.sameB o p = true ↔ o.bare = p.bare := by
  obtain ⟨k1, f1, t1, n1, s1, r1, z1, o1⟩ := o
  obtain ⟨k2, f2, t2, n2, s2, r2, z2, o2⟩ := p
  simp [Sc.sameB, Sc.Op.bare]
  intros
  exact and_comm
set_option maxHeartbeats 8000000 in
set_option maxRecDepth 100000 in
theorem same_any (a b : Sc.Op) (v1 u1 v2 u2 : Value) (w : World) (hP1 : PtsAt w v1 a.parts) (hN1 : NsAt .i32 w u1 a.starts) (hP2 : PtsAt w v2 b.parts) (hN2 : NsAt .i32 w u2 b.starts) (hl : a.parts.length ≤ 1000000 ∧ a.starts.length ≤ 1000000) :
    Calls Tryz.prog 46 #[.agg (opc a v1 u1).toArray, .agg (opc b v2 u2).toArray] w fun e w' => e = .returned (.bool (Sc.sameB a b)) ∧ Below w.heap.size w w' := by
  obtain ⟨k1, f1, t1, n1, s1, r1, z1, o1⟩ := a
  obtain ⟨k2, f2, t2, n2, s2, r2, z2, o2⟩ := b
  obtain ⟨p1, c1, rfl, hP1⟩ := hP1
  obtain ⟨p2, c2, rfl, hP2⟩ := hP2
  obtain ⟨q1, e1, rfl, hN1⟩ := hN1
  obtain ⟨q2, e2, rfl, hN2⟩ := hN2
  have HN1 : Hid (NsAt .i32 w (.slice q1 r1.length e1) r1) := Lib.hid ⟨q1, e1, rfl, hN1⟩
  have HN2 : Hid (NsAt .i32 w (.slice q2 r2.length e2) r2) := Lib.hid ⟨q2, e2, rfl, hN2⟩
  have RA := (Row.new w #[.int .i64 (k1 : Int), .int .u32 (f1 : Int), .int .u32 (t1 : Int), .string ⟨n1.toArray⟩, .slice p1 s1.length c1, .slice q1 r1.length e1, .int .i32 z1, .int .i64 (o1 : Int)] 53).alloc (.cells #[.int .i64 (k2 : Int), .int .u32 (f2 : Int), .int .u32 (t2 : Int), .string ⟨n2.toArray⟩, .slice p2 s2.length c2, .slice q2 r2.length e2, .int .i32 z2, .int .i64 (o2 : Int)] 53)
  have RB := Row.new (w.alloc (.cells #[.int .i64 (k1 : Int), .int .u32 (f1 : Int), .int .u32 (t1 : Int), .string ⟨n1.toArray⟩, .slice p1 s1.length c1, .slice q1 r1.length e1, .int .i32 z1, .int .i64 (o1 : Int)] 53)) #[.int .i64 (k2 : Int), .int .u32 (f2 : Int), .int .u32 (t2 : Int), .string ⟨n2.toArray⟩, .slice p2 s2.length c2, .slice q2 r2.length e2, .int .i32 z2, .int .i64 (o2 : Int)] 53
  have hsz : (w.alloc (.cells #[.int .i64 (k1 : Int), .int .u32 (f1 : Int), .int .u32 (t1 : Int), .string ⟨n1.toArray⟩, .slice p1 s1.length c1, .slice q1 r1.length e1, .int .i32 z1, .int .i64 (o1 : Int)] 53)).heap.size = w.heap.size + 1 := by simp
  rw [hsz] at RB
  have BB := below_alloc (below_alloc (Below.refl _ w) (.cells #[.int .i64 (k1 : Int), .int .u32 (f1 : Int), .int .u32 (t1 : Int), .string ⟨n1.toArray⟩, .slice p1 s1.length c1, .slice q1 r1.length e1, .int .i32 z1, .int .i64 (o1 : Int)] 53)) (.cells #[.int .i64 (k2 : Int), .int .u32 (f2 : Int), .int .u32 (t2 : Int), .string ⟨n2.toArray⟩, .slice p2 s2.length c2, .slice q2 r2.length e2, .int .i32 z2, .int .i64 (o2 : Int)] 53)
  have HB : Hid (Below w.heap.size w ((w.alloc (.cells #[.int .i64 (k1 : Int), .int .u32 (f1 : Int), .int .u32 (t1 : Int), .string ⟨n1.toArray⟩, .slice p1 s1.length c1, .slice q1 r1.length e1, .int .i32 z1, .int .i64 (o1 : Int)] 53)).alloc (.cells #[.int .i64 (k2 : Int), .int .u32 (f2 : Int), .int .u32 (t2 : Int), .string ⟨n2.toArray⟩, .slice p2 s2.length c2, .slice q2 r2.length e2, .int .i32 z2, .int .i64 (o2 : Int)] 53))) := Lib.hid BB
  have HP := Lib.hid (equal_parts p1 p2 c1 c2 s1 s2 ((w.alloc (.cells #[.int .i64 (k1 : Int), .int .u32 (f1 : Int), .int .u32 (t1 : Int), .string ⟨n1.toArray⟩, .slice p1 s1.length c1, .slice q1 r1.length e1, .int .i32 z1, .int .i64 (o1 : Int)] 53)).alloc (.cells #[.int .i64 (k2 : Int), .int .u32 (f2 : Int), .int .u32 (t2 : Int), .string ⟨n2.toArray⟩, .slice p2 s2.length c2, .slice q2 r2.length e2, .int .i32 z2, .int .i64 (o2 : Int)] 53)) (ElsAt.below hP1 BB) (ElsAt.below hP2 BB) hl.1)
  have HL := Lib.hid hl
  have a0 := RA.cell 0
  have b0 := RB.cell 0
  have a1 := RA.cell 1
  have b1 := RB.cell 1
  have a2 := RA.cell 2
  have b2 := RB.cell 2
  have a3 := RA.cell 3
  have b3 := RB.cell 3
  have a4 := RA.cell 4
  have b4 := RB.cell 4
  have a5 := RA.cell 5
  have b5 := RB.cell 5
  have a6 := RA.cell 6
  have b6 := RB.cell 6
  have HA5 : Hid (((w.alloc (.cells #[.int .i64 (k1 : Int), .int .u32 (f1 : Int), .int .u32 (t1 : Int), .string ⟨n1.toArray⟩, .slice p1 s1.length c1, .slice q1 r1.length e1, .int .i32 z1, .int .i64 (o1 : Int)] 53)).alloc (.cells #[.int .i64 (k2 : Int), .int .u32 (f2 : Int), .int .u32 (t2 : Int), .string ⟨n2.toArray⟩, .slice p2 s2.length c2, .slice q2 r2.length e2, .int .i32 z2, .int .i64 (o2 : Int)] 53)).cell? ⟨w.heap.size, 5, none⟩ = some (.slice q1 r1.length e1)) := Lib.hid (RA.cell 5)
  have HA6 : Hid (((w.alloc (.cells #[.int .i64 (k1 : Int), .int .u32 (f1 : Int), .int .u32 (t1 : Int), .string ⟨n1.toArray⟩, .slice p1 s1.length c1, .slice q1 r1.length e1, .int .i32 z1, .int .i64 (o1 : Int)] 53)).alloc (.cells #[.int .i64 (k2 : Int), .int .u32 (f2 : Int), .int .u32 (t2 : Int), .string ⟨n2.toArray⟩, .slice p2 s2.length c2, .slice q2 r2.length e2, .int .i32 z2, .int .i64 (o2 : Int)] 53)).cell? ⟨w.heap.size, 6, none⟩ = some (.int .i32 z1)) := Lib.hid (RA.cell 6)
  have HB5 : Hid (((w.alloc (.cells #[.int .i64 (k1 : Int), .int .u32 (f1 : Int), .int .u32 (t1 : Int), .string ⟨n1.toArray⟩, .slice p1 s1.length c1, .slice q1 r1.length e1, .int .i32 z1, .int .i64 (o1 : Int)] 53)).alloc (.cells #[.int .i64 (k2 : Int), .int .u32 (f2 : Int), .int .u32 (t2 : Int), .string ⟨n2.toArray⟩, .slice p2 s2.length c2, .slice q2 r2.length e2, .int .i32 z2, .int .i64 (o2 : Int)] 53)).cell? ⟨w.heap.size + 1, 5, none⟩ = some (.slice q2 r2.length e2)) := Lib.hid (RB.cell 5)
  have HB6 : Hid (((w.alloc (.cells #[.int .i64 (k1 : Int), .int .u32 (f1 : Int), .int .u32 (t1 : Int), .string ⟨n1.toArray⟩, .slice p1 s1.length c1, .slice q1 r1.length e1, .int .i32 z1, .int .i64 (o1 : Int)] 53)).alloc (.cells #[.int .i64 (k2 : Int), .int .u32 (f2 : Int), .int .u32 (t2 : Int), .string ⟨n2.toArray⟩, .slice p2 s2.length c2, .slice q2 r2.length e2, .int .i32 z2, .int .i64 (o2 : Int)] 53)).cell? ⟨w.heap.size + 1, 6, none⟩ = some (.int .i32 z2)) := Lib.hid (RB.cell 6)
  simp at a0 b0 a1 b1 a2 b2 a3 b3 a4 b4 a5 b5 a6 b6
  unfold opc
  clear RA RB BB hsz hP1 hP2 hN1 hN2 hl
  by_cases hh : k1 = k2
  · subst hh
    by_cases hh : f1 = f2
    · subst hh
      by_cases hh : t1 = t2
      · subst hh
        by_cases hh : n1 = n2
        · subst hh
          go_enter Tryz.func46, Tryz.ntmps46
          go_wp2_with fail
          refine HP.out.mono ?_
          rintro _ w2 ⟨rfl, hb⟩
          by_cases hp : s1 = s2
          · subst hp
            have hpd : decide (s1 = s1) = true := by simp
            have x5 := cell_then HA5.out hb
            have x6 := cell_then HA6.out hb
            have y5 := cell_then HB5.out hb
            have y6 := cell_then HB6.out hb
            go_wp2_with fail
            refine (csame_any (.slice q1 r1.length e1) (.slice q2 r2.length e2) r1 r2 z1 z2 w2 (HN1.out.below (below_then HB.out hb)) (HN2.out.below (below_then HB.out hb)) HL.out.2).mono ?_
            rintro _ w3 ⟨rfl, hb3⟩
            go_wp2_with fail
            go_ret
            exact ⟨by simp [Sc.sameB], below_then (below_then HB.out hb) hb3⟩
          · have hpd : decide (s1 = s2) = false := decide_eq_false hp
            go_wp2_with fail
            go_ret
            exact ⟨by simp [Sc.sameB, hp], below_then HB.out hb⟩
        · have hi : ¬ (⟨n1.toArray⟩ : ByteArray) = ⟨n2.toArray⟩ := fun e => hh (by simpa using e)
          have hi2 : decide ((⟨n1.toArray⟩ : ByteArray) = ⟨n2.toArray⟩) = false := decide_eq_false hi
          go_enter Tryz.func46, Tryz.ntmps46
          go_wp2_with fail
          go_ret
          exact ⟨by simp [Sc.sameB, hh], HB.out⟩
      · have hi : ¬ (t1 : Int) = (t2 : Int) := by omega
        go_enter Tryz.func46, Tryz.ntmps46
        go_wp2_with fail
        go_ret
        exact ⟨by simp [Sc.sameB, hh], HB.out⟩
    · have hi : ¬ (f1 : Int) = (f2 : Int) := by omega
      go_enter Tryz.func46, Tryz.ntmps46
      go_wp2_with fail
      go_ret
      exact ⟨by simp [Sc.sameB, hh], HB.out⟩
  · have hi : ¬ (k1 : Int) = (k2 : Int) := by omega
    go_enter Tryz.func46, Tryz.ntmps46
    go_wp2_with fail
    go_ret
    exact ⟨by simp [Sc.sameB, hh], HB.out⟩
end Go.Proofs.YtbnhodpbamijkaaGreatDoor

namespace Go.Proofs.YtbnhodpbamijkaaGreatDoor
open Go.RowKit
set_option linter.unusedVariables false
set_option linter.unusedSimpArgs false
def sameL : List (Sc.Op × Value × Value) → List (Sc.Op × Value × Value) → Bool
  | [], [] => true
  | a :: l, b :: m => Sc.sameB a.1 b.1 && sameL l m
  | _, _ => false
theorem sameL_iff : ∀ (l m : List (Sc.Op × Value × Value)), sameL l m = true ↔ l.map (fun e => e.1.bare) = m.map (fun e => e.1.bare)
  | [], [] => by simp [sameL]
  | [], b :: m => by simp [sameL]
  | a :: l, [] => by simp [sameL]
  | a :: l, b :: m => by
    have := sameL_iff l m
    have h2 := Sc.sameB_iff a.1 b.1
    simp [sameL, this, h2]
theorem sameL_len : ∀ (l m : List (Sc.Op × Value × Value)), l.length ≠ m.length → sameL l m = false
  | [], [], h => absurd rfl h
  | [], b :: m, _ => rfl
  | a :: l, [], _ => rfl
  | a :: l, b :: m, h => by
    have := sameL_len l m (by simpa using h)
    simp [sameL, this]
theorem sameL_drop : ∀ (l m : List (Sc.Op × Value × Value)) (k : Nat), l.length = m.length → k < l.length → sameL (l.drop k) (m.drop k) = (Sc.sameB (l.getD k opE0).1 (m.getD k opE0).1 && sameL (l.drop (k + 1)) (m.drop (k + 1))) := fun l m k h hk => by
  rw [List.drop_eq_getElem_cons hk, List.drop_eq_getElem_cons (show k < m.length by omega), List.getD_eq_getElem?_getD, List.getD_eq_getElem?_getD, List.getElem?_eq_getElem hk, List.getElem?_eq_getElem (show k < m.length by omega)]
  rfl
end Go.Proofs.YtbnhodpbamijkaaGreatDoor
