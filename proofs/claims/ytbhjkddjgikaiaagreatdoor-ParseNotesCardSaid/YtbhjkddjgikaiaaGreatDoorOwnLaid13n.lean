/-
  Own texts, several in one (Laid13n, Pair14, RawP).
-/
import Derived.Test.YtbhjkddjgikaiaaGreatDoorMrg26
import Derived.Test.YtbhjkddjgikaiaaGreatDoorMrg37
import Derived.Test.YtbhjkddjgikaiaaGreatDoorMrg40
import Derived.Test.YtbhjkddjgikaiaaGreatDoorMrg36
import Derived.Test.YtbhjkddjgikaiaaGreatDoorMrg25
namespace Go.Proofs.YtbhjkddjgikaiaaGreatDoor
open Go.ChangeShapes Go.WideShapes Go.ChangeAt Go.RowKit
theorem glb13n_of {W : World} (h : laidMetH Tryz.prog Rows.parseNotesRow.laid W) (hs : W.ShapedOpen Tryz.prog) : Glb13 W := by
  have h1 := h.filter (fun x => x.1 != "unicode/utf8.acceptRanges" && x.1 != "unicode/utf8.first")
  have e : (Rows.parseNotesRow.laid).filter (fun x => x.1 != "unicode/utf8.acceptRanges" && x.1 != "unicode/utf8.first") = laidL13 := by kernel_rfl
  rw [e] at h1
  exact glb13_of h1 hs
/-- the world that the program's own start leaves, with package utf8's first table in its place -/
noncomputable def wdn (os : Os) : World := (wd os).setRow 4 ((Pinned.utf8FirstZ.map fun (n : Nat) => Value.int .u8 (n : Int)).toArray)
theorem door_met13n (os : Os) (args : Array Value) : laidMetH Tryz.prog Rows.parseNotesRow.laid ((wdn os).forCall (fun _ _ => 0) ⟨#[], args, []⟩).memory :=
  laidMetH_of_parts3 (fuel := 8) (laidMet_of_run' 8 (by kernel_rfl) (by kernel_rfl)) (by kernel_rfl) (by kernel_rfl)
theorem door_varsn (os : Os) (args : Array Value) : ((wdn os).forCall (fun _ _ => 0) ⟨#[], args, []⟩).variablesRefB Tryz.prog = true := by kernel_rfl
theorem door_heapn (os : Os) (args : Array Value) : (((wdn os).forCall (fun _ _ => 0) ⟨#[], args, []⟩).heap.toList.drop Tryz.prog.globals.size).take ((begin Tryz.prog (fun _ _ => 0) default).world.heap.size - Tryz.prog.globals.size) =
      (begin Tryz.prog (fun _ _ => 0) default).world.heap.toList.drop Tryz.prog.globals.size := by kernel_rfl
end Go.Proofs.YtbhjkddjgikaiaaGreatDoor

namespace Go.Proofs.YtbhjkddjgikaiaaGreatDoor
open Go.RowKit
set_option linter.unusedVariables false
set_option linter.unusedSimpArgs false
/-- what a parser's answer says of a text -/
def PO (w : World) (l : List UInt8) (p : Option Addr) (n c : Nat) (a e : Int) : Prop :=
  (∃ pp cc : Nat, Sc.parse Dy.parse l = .error (pp, cc) ∧ p = none ∧ n = 0 ∧ c = 0 ∧ a = (pp : Int) ∧ e = (cc : Int)) ∨
  (∃ (ops : List Sc.Op) (vals : List (Sc.Op × Value × Value)), Sc.parse Dy.parse l = .ok ops ∧ vals.map (·.1) = ops ∧ n = vals.length ∧ a = 0 ∧ e = 0 ∧ ElsAt opE 8 opE0 w p vals ∧ ∀ x ∈ vals, okP w x)
theorem parse_out {B : Nat} {l : List UInt8} {e : Ending} {w : World} (h : parseR B (Sc.parse Dy.parse l) e w) : ∃ p n c a er, e = .returned (.tuple #[.slice p n c, .int .i64 a, .int .i64 er]) ∧ PO w l p n c a er := by
  rcases hp : Sc.parse Dy.parse l with ⟨pp, cc⟩ | ops
  · rw [hp] at h
    exact ⟨none, 0, 0, (pp : Int), (cc : Int), h, .inl ⟨pp, cc, hp, rfl, rfl, rfl, rfl, rfl⟩⟩
  · rw [hp] at h
    obtain ⟨v, vals, he, how, hv, hok⟩ : ∃ (v : Value) (vals : List (Sc.Op × Value × Value)), e = .returned (.tuple #[v, .int .i64 0, .int .i64 0]) ∧ w.ownsRow B 48 8 v vals.length (vals.flatMap opE) ∧ vals.map (·.1) = ops ∧ ∀ x ∈ vals, okP w x := h
    obtain ⟨_, p, c, rfl, hE⟩ := els_ownG opE 8 opE0 (fun _ => rfl) (by omega) how
    exact ⟨p, vals.length, c, 0, 0, he, .inr ⟨ops, vals, hp, hv, rfl, rfl, rfl, hE, hok⟩⟩
theorem PO.below {w w' : World} {l : List UInt8} {p : Option Addr} {n c : Nat} {a e : Int} (h : PO w l p n c a e) (hb : Below w.heap.size w w') : PO w' l p n c a e := by
  rcases h with h | ⟨ops, vals, h1, h2, h3, h4, h5, h6, h7⟩
  · exact .inl h
  · exact .inr ⟨ops, vals, h1, h2, h3, h4, h5, h6.below hb, fun x hx => okP_only (h7 x hx) (Only.of_below (S := fun _ => False) hb) (fun _ _ h => h)⟩
theorem pair14 {w : World} {l : List UInt8} {p1 p2 : Option Addr} {n1 n2 c1 c2 : Nat} {a1 a2 e1 e2 : Int} (h1 : PO w l p1 n1 c1 a1 e1) (h2 : PO w l p2 n2 c2 a2 e2) : n2 = n1 ∧ a2 = a1 ∧ e2 = e1 ∧
    Calls Tryz.prog 19 #[.slice p1 n1 c1, .slice p2 n2 c2] w fun e w' => e = .returned (.bool true) ∧ Below w.heap.size w w' := by
  rcases h1 with ⟨pp, cc, hp, rfl, rfl, rfl, rfl, rfl⟩ | ⟨ops, vals, hp, hv, rfl, rfl, rfl, hE, hok⟩
  · rcases h2 with ⟨pp2, cc2, hp2, rfl, rfl, rfl, rfl, rfl⟩ | ⟨ops, vals, hp2, _⟩
    · rw [hp] at hp2
      simp only [Except.error.injEq, Prod.mk.injEq] at hp2
      obtain ⟨rfl, rfl⟩ := hp2
      exact ⟨rfl, rfl, rfl, same14 none none 0 0 [] [] w (.inl rfl) (.inl rfl) (fun e he => by cases he) (fun e he => by cases he) (by simp) rfl (fun e he => by cases he)⟩
    · rw [hp] at hp2; cases hp2
  · rcases h2 with ⟨pp2, cc2, hp2, _⟩ | ⟨ops2, vals2, hp2, hv2, rfl, rfl, rfl, hE2, hok2⟩
    · rw [hp] at hp2; cases hp2
    · rw [hp] at hp2
      obtain rfl := Except.ok.inj hp2
      have hbd := Sc.parse_bd hp
      have hl1 : vals.length = ops.length := by rw [← hv, List.length_map]
      have hl2 : vals2.length = ops.length := by rw [← hv2, List.length_map]
      exact ⟨by omega, rfl, rfl, same14 p1 p2 c1 c2 vals vals2 w hE hE2 hok hok2 (by have := hbd.2; omega) (hv.trans hv2.symm) (fun e he => hbd.1 e.1 (by rw [← hv]; exact List.mem_map_of_mem he))⟩
end Go.Proofs.YtbhjkddjgikaiaaGreatDoor

namespace Go.Proofs.YtbhjkddjgikaiaaGreatDoor
set_option linter.unusedVariables false
set_option linter.unusedSimpArgs false
namespace Sc
theorem name6_quo (n : Nat) : ∀ b ∈ name6 n, Lx.quo b = true := by
  have h : ∀ x ∈ names6, ∀ b ∈ x, Lx.quo b = true := by decide
  exact h _ (name6_mem n)
theorem day_inY (first : Int) (long : List Int) (hf : -32768 ≤ first ∧ first ≤ 32767) (k : Nat) (hk : k ≤ 12) : Dy.inY (dayAt first long k) ∧ Dy.inY (dayAt first long k + 31) := by
  have := dayAt_bd first long hf k
  unfold Dy.inY
  omega
theorem raw_ok (x : O) (hx : x.ok) : (raw x).ok Dy.inY := by
  have ha := hx.a
  have hb := hx.b
  have none : ∀ b ∈ ([] : List UInt8), Lx.quo b = true := fun b h => (by cases h)
  have nop : ∀ p ∈ ([] : List (Nat × Nat)), p.1 ≤ 9999999 ∧ p.2 ≤ 9999999 := fun p h => (by cases h)
  have nos : ∀ d ∈ ([] : List Int), Dy.inY d := fun d h => (by cases h)
  unfold raw
  split
  · exact ⟨by show 1 < 8; omega, by show 1 + x.a ≤ _; omega, by show 0 ≤ _; omega, name6_quo _, nop, nos, fun h => (by cases h)⟩
  · split
    · refine ⟨by show 4 < 8; omega, by show 1 + x.a ≤ _; omega, by show 0 ≤ _; omega, none, ?_, nos, fun h => (by cases h)⟩
      intro p hp
      have hp : p ∈ (1 + x.b, 1) :: (x.parts.take 7).map rawPt := hp
      rcases List.mem_cons.1 hp with rfl | hp
      · exact ⟨by show 1 + x.b ≤ _; omega, by show 1 ≤ _; omega⟩
      · obtain ⟨q, hq, rfl⟩ := List.mem_map.1 hp
        have := hx.parts q (List.mem_of_mem_take hq)
        exact ⟨by show 1 + q.1 ≤ _; omega, by show 1 + q.2 % 1000000 ≤ _; omega⟩
    · split
      · refine ⟨by show 7 < 8; omega, by show 0 ≤ _; omega, by show 0 ≤ _; omega, none, nop, ?_, fun _ => (day_inY _ _ hx.first _ (by omega)).2⟩
        intro d hd
        have hd : d ∈ (List.range (min x.long.length 12 + 1)).map (dayAt x.first x.long) := hd
        obtain ⟨k, hk, rfl⟩ := List.mem_map.1 hd
        have := List.mem_range.1 hk
        exact (day_inY _ _ hx.first k (by omega)).1
      · split
        · exact ⟨by show 2 < 8; omega, by show 1 + x.a ≤ _; omega, by show x.b ≤ _; omega, none, nop, nos, fun h => (by cases h)⟩
        · rename_i h1 h4 h7 h2
          exact ⟨by show x.kind % 8 < 8; omega, by show 1 + x.a ≤ _; omega, by show 1 + x.b ≤ _; omega, none, nop, nos, fun h => absurd h h7⟩
theorem raw_may (x : O) (hx : x.ok) : (raw x).may := by
  have ha := hx.a
  have hb := hx.b
  have hmost : ∀ k, k < 8 → 256 ≤ most k := by decide
  have hleast : ∀ k, k < 8 → least k ≤ 1 := by decide
  have m1 := hmost 1 (by omega)
  have m2 := hmost 2 (by omega)
  have m4 := hmost 4 (by omega)
  have l2 : least 2 = 0 := by decide
  unfold raw
  split
  · exact ⟨by show 1 < 8; omega, fun _ => by show 1 ≤ 1 + x.a ∧ ((1 + x.a : Nat) : Int) ≤ most 1; omega, fun _ h => absurd rfl h, fun h => (by cases h), fun h => (by cases h), fun _ => rfl, fun h => absurd rfl h, fun _ => rfl, fun _ => rfl, fun _ => rfl⟩
  · split
    · refine ⟨by show 4 < 8; omega, fun _ => by show 1 ≤ 1 + x.a ∧ ((1 + x.a : Nat) : Int) ≤ most 4; omega, fun _ _ h => absurd rfl h, fun _ => ⟨?_, ?_, ?_⟩, fun h => (by cases h), fun _ => rfl, fun _ => rfl, fun h => absurd rfl h, fun _ => rfl, fun _ => rfl⟩
      · show 0 < ((1 + x.b, 1) :: (x.parts.take 7).map rawPt).length
        rw [List.length_cons]
        omega
      · show ((1 + x.b, 1) :: (x.parts.take 7).map rawPt).length ≤ 8
        rw [List.length_cons, List.length_map, List.length_take]
        omega
      · intro p hp
        have hp : p ∈ (1 + x.b, 1) :: (x.parts.take 7).map rawPt := hp
        rcases List.mem_cons.1 hp with rfl | hp
        · show 1 ≤ 1 + x.b ∧ 1 + x.b ≤ 999999 ∧ 1 ≤ 1 ∧ 1 ≤ 1000000
          omega
        · obtain ⟨q, hq, rfl⟩ := List.mem_map.1 hp
          have := hx.parts q (List.mem_of_mem_take hq)
          show 1 ≤ 1 + q.1 ∧ 1 + q.1 ≤ 999999 ∧ 1 ≤ 1 + q.2 % 1000000 ∧ 1 + q.2 % 1000000 ≤ 1000000
          omega
    · split
      · exact ⟨by show 7 < 8; omega, fun h => absurd rfl h, fun h => absurd rfl h, fun h => (by cases h), fun _ => rfl, fun _ => rfl, fun _ => rfl, fun _ => rfl, fun h => absurd rfl h, fun h => absurd rfl h⟩
      · split
        · exact ⟨by show 2 < 8; omega, fun _ => by show 1 ≤ 1 + x.a ∧ ((1 + x.a : Nat) : Int) ≤ most 2; omega, fun _ _ _ => by show least 2 ≤ x.b ∧ (x.b : Int) ≤ most 2; omega, fun h => (by cases h), fun h => (by cases h), fun h => (by rcases h with h | h | h <;> cases h), fun _ => rfl, fun _ => rfl, fun _ => rfl, fun _ => rfl⟩
        · rename_i h1 h4 h7 h2
          have hk : x.kind % 8 < 8 := by omega
          have mk := hmost _ hk
          have lk := hleast _ hk
          exact ⟨hk, fun _ => by show 1 ≤ 1 + x.a ∧ ((1 + x.a : Nat) : Int) ≤ most (x.kind % 8); omega, fun _ _ _ => by show least (x.kind % 8) ≤ 1 + x.b ∧ ((1 + x.b : Nat) : Int) ≤ most (x.kind % 8); omega, fun h => absurd h h4, fun h => absurd h h7, fun h => (by rcases h with h | h | h; exact absurd h h7; exact absurd h h1; exact absurd h h4), fun _ => rfl, fun _ => rfl, fun _ => rfl, fun _ => rfl⟩
end Sc
end Go.Proofs.YtbhjkddjgikaiaaGreatDoor
