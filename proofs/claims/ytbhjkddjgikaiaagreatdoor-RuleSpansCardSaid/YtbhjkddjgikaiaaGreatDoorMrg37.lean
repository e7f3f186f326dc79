import Derived.JoinedOf
import Derived.KernelRfl
import GoSem.ClaimSevenParts
import GoSem.ClaimGoes
import Derived.Test.YtbhjkddjgikaiaaGreatDoorProg
namespace Go.Proofs.YtbhjkddjgikaiaaGreatDoor
open Go
theorem strip_cut (rest : List (List Char)) : stripLifts liftWords ("cut".toList :: rest) = ([], "cut".toList :: rest) := by
  kernel_rfl
theorem cut_enters {P : Program} {rest : List (List Char)} (h : behindMainWord (wordsSigns P.initOrder.toList) = "cut".toList :: rest) (hl : P.laysLater = false) (hr : P.bearsReflect = false) (hd : P.doorFits [] = true) : P.mayEnter = true ∧ P.liftsFinal = false ∧ P.make = some .cut := by
  refine ⟨?_, ?_, ?_⟩
  · unfold Program.mayEnter
    rw [h]
    simp only [strip_cut, hl, hr, hd]
    kernel_rfl
  · unfold Program.liftsFinal Program.headLifts
    rw [h]
    simp only [strip_cut]
    kernel_rfl
  · unfold Program.make Program.headLifts
    rw [h]
    rfl
theorem rec_of {P : Program} {f : FuncId} (h : P.unfollowed f = true) : P.recurses f = true := by
  unfold Program.recurses
  rw [h]
  rfl
theorem joined_of {P : Program} {f : FuncId} {fn : Func} {s : ChangeSpec} {c : OpenClaim}
    (p1 : laidOutB P = true) (p2 : mapsRowed P = true) (p3 : (P.stops == []) = true) (p4 : (P.stopKnobs == []) = true) (p5 : P.stopsHeard = true) (p6 : P.mayEnter = true ∧ P.liftsFinal = false ∧ P.make = some .cut) (p7 : P.plainKeys = true)
    (h1 : c.wf (OpenSpec.ofChange s) = true) (h2 : fn.params.all (P.readableRec ·) = true) (h3 : namedTie P c.named s.vars = true)
    (h4 : (c.stops == [] && c.knobs == [] && c.plainKeys && c.shortTexts.isNone && !c.lifted && (some Make.cut == some c.make) && c.recurses) = true)
    (h5 : (c.inPlace == P.inPlace f) = true) (h6 : P.unfollowed f = true) (h7 : c.unfollowed = true) (h8 : (c.named == P.varsNamed f) = true)
    (h9 : ((c.maps == (fn.params.toList ++ s.plain.varTypes P).any (P.mapsRec ·)) && (c.ifaces == (fn.params.toList ++ s.plain.varTypes P).any (P.ifacesRec ·)) && (c.mapsOut == P.mapsAmong fn.resultTypes.toList)) = true)
    (h10 : ((c.loops == (fn.params.toList ++ s.plain.varTypes P).any (P.loopsFrom ·)) && (c.wideKeys == (fn.params.toList ++ s.plain.varTypes P ++ fn.resultTypes.toList).any (P.wideKeysFrom ·))) = true)
    (h11 : s.vars.all (P.varReadable ·) = true) (h12 : (fn.resultTypes.all (fun t => P.readableRec t && decide (t < P.types.size)) && (c.ifacesOut == fn.resultTypes.toList.any (P.ifacesRec ·)) && (c.loopsOut == fn.resultTypes.toList.any (P.loopsFrom ·))) = true)
    (h13 : (c.kinds == (if c.domain.isEmpty then [] else fn.params.toList.map fun t => match P.underlying t with | some (.int k) => some k | _ => none)) = true) (h14 : (c.pinned == c.pinnedBy) = true)
    (h15 : (c.veiled == (fn.params.toList ++ s.plain.varTypes P ++ fn.resultTypes.toList).any (P.veiledRec ·)) = true) (h16 : c.veiledFits P fn.params.toList (fn.params.toList ++ s.plain.varTypes P ++ fn.resultTypes.toList) = true) : joinedFacts P f fn s c = true := by
  obtain ⟨q1, q2, q3⟩ := p6
  have h6' := rec_of h6
  simp only [Bool.and_eq_true, Bool.not_eq_true'] at h4 h9 h10 h12
  obtain ⟨⟨⟨⟨⟨⟨a1, a2⟩, a3⟩, a4⟩, a5⟩, a6⟩, a7⟩ := h4
  obtain ⟨⟨b1, b2⟩, b3⟩ := h9
  obtain ⟨b4, b5⟩ := h10
  obtain ⟨⟨b6, b7⟩, b8⟩ := h12
  unfold joinedFacts
  simp only [Bool.and_eq_true]
  exact ⟨⟨⟨⟨⟨⟨⟨⟨⟨⟨⟨⟨⟨⟨⟨⟨⟨⟨⟨⟨⟨⟨⟨⟨⟨⟨⟨⟨⟨⟨⟨h1, p1⟩, p2⟩, h2⟩, h3⟩, a1⟩, p3⟩, a2⟩, p4⟩, h5⟩, by rw [h6, h7]; rfl⟩, by rw [h6', a7]; rfl⟩, h8⟩, b1⟩, b2⟩, b3⟩, b4⟩, b5⟩, h11⟩, b6⟩, b7⟩, b8⟩, by rw [p7, a3]; rfl⟩, a4⟩, p5⟩, q1⟩, by rw [q2, a5]; rfl⟩, by rw [q3]; exact a6⟩, h13⟩, h14⟩, h15⟩, h16⟩
theorem noGo {P : Program} (h : P.funcs.any Func.goes = false) (f : FuncId) : P.goes f = false := by
  have h0 : ∀ g : Nat, (P.funcs[g]?).any Func.goes = false := fun g => by
    cases hg : P.funcs[g]? with
    | none => rfl
    | some fn =>
      obtain ⟨hlt, he⟩ := Array.getElem?_eq_some_iff.1 hg
      have := Array.any_eq_false.1 h g hlt
      rw [he] at this
      simpa using this
  unfold Program.goes
  rw [h, Bool.and_false, Bool.or_false, List.any_eq_false]
  intro g _
  rw [h0 g]
  simp
theorem goes_of {P : Program} {c : OpenClaim} (h : P.funcs.any Func.goes = false) (hs : c.start = .entering) : false = c.goesBy P := by
  unfold OpenClaim.goesBy Program.goesAt Program.goesFrom
  rw [hs]
  cases P.funcNamed c.func with
  | none => rfl
  | some f => simp [noGo h f]
theorem pNoGo : Tryz.prog.funcs.any Func.goes = false := by kernel_rfl
theorem pLaid : laidOutB Tryz.prog = true := by kernel_rfl
theorem pMaps : mapsRowed Tryz.prog = true := by kernel_rfl
theorem pStops : (Tryz.prog.stops == []) = true := by kernel_rfl
theorem pKnobs : (Tryz.prog.stopKnobs == []) = true := by kernel_rfl
theorem pHeard : Tryz.prog.stopsHeard = true := by kernel_rfl
theorem pKeys : Tryz.prog.plainKeys = true := by kernel_rfl
theorem pLater : Tryz.prog.laysLater = false := by kernel_rfl
theorem pRefl : Tryz.prog.bearsReflect = false := by kernel_rfl
theorem pFits : Tryz.prog.doorFits [] = true := by kernel_rfl
theorem pHead : (behindMainWord (wordsSigns Tryz.prog.initOrder.toList)).head? = some "cut".toList := by kernel_rfl
theorem pEnter : Tryz.prog.mayEnter = true ∧ Tryz.prog.liftsFinal = false ∧ Tryz.prog.make = some .cut := by
  have h := pHead
  cases hw : behindMainWord (wordsSigns Tryz.prog.initOrder.toList) with
  | nil => rw [hw] at h; cases h
  | cons a r =>
    rw [hw] at h
    obtain rfl : a = "cut".toList := Option.some.inj h
    exact cut_enters hw pLater pRefl pFits
end Go.Proofs.YtbhjkddjgikaiaaGreatDoor
