/-
  A region that draws its order, walked once in the order of the text, in a class of worlds of one's own: the library's quiet walk with 'n.w, n : QW S' in the place of 'w.drewN n'. Facts on cells are laid for all n : QW S.
-/
import Derived.Test.YtahagfdjpldblaaGreatDoorReg
import Derived.BigQuiet
namespace Go.Proofs.YtahagfdjpldblaaGreatDoor
open Go.RowKit
set_option linter.unusedVariables false
set_option linter.unusedSimpArgs false

/-- a world that meets S -/
structure QW (S : World → Prop) where
  w : World
  h : S w
theorem region_quietS {P : Program} {id : Nat} {Q : Exit → Act → World → Prop} {a : Act} {w : World} {l : List Oper} (S : World → Prop) (hm : P.follows .mixedOrders = true) (hB : Region.lexB .any l.toArray = true) (hS : S w.drew)
    (h : Nonempty (QW S) → wpQuiet P l.toArray (fun w' => ∃ n : QW S, w' = n.w) (fun a' => ∀ w', (∃ n : QW S, w' = n.w) → Q .normal a' w') l a) : (Code.region id l.toArray true).wp P Q a w :=
  wp_region_quiet (C := fun w' => ∃ n : QW S, w' = n.w) hm hB ⟨⟨_, hS⟩, rfl⟩ (by simpa using h ⟨⟨_, hS⟩⟩)
/-- a callee's contract in such a world -/
theorem Calls.quietS {P : Program} {f : FuncId} {args : Array Value} {S : World → Prop} {n : QW S} {v : Value}
    (h : Calls P f args n.w fun e w' => e = .returned v ∧ S w') : Calls P f args n.w fun e w'' => e = .returned v ∧ ∃ m : QW S, w'' = m.w :=
  h.mono fun _ w'' ⟨he, hm⟩ => ⟨he, ⟨w'', hm⟩, rfl⟩
end Go.Proofs.YtahagfdjpldblaaGreatDoor
