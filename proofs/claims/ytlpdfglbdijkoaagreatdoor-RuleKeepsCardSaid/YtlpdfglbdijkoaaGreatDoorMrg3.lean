/-
  Own texts, several in one (MoneyT, Day, Laid5, Map).
-/
import Derived.Test.YtlpdfglbdijkoaaGreatDoorMrg2
import Derived.Test.YtlpdfglbdijkoaaGreatDoorMrg1
import Derived.Shelf.Strconv.Itoa3
import Derived.Maps.Own
import Derived.Maps.OwnOps
import Derived.Maps.RangeRun
import Derived.WideKeyEntry
namespace Go.Proofs.YtlpdfglbdijkoaaGreatDoor
open Go.RowKit
set_option linter.unusedVariables false
set_option linter.unusedSimpArgs false
theorem zed (n:Int) (h:Wd.I64 n) (w:World) :
  Calls Tryz.prog 255 #[.int .i64 n] w fun e w'=>e = .returned (.int .u64 (n.natAbs:Int))∧w = w':=by
 have k:=zgz n w h
 have e:Wd.abs n = (n.natAbs:Int):=by unfold Wd.abs; split <;> omega
 rwa [e] at k
theorem zcl (u:Nat) (h:u < 18446744073709551616):(Lib.decDigits u).length≤20:=by
 rw [Lib.decDigits_length]
 by_cases h1:1≤u
 ·have:=Lib.numDigits_eq u h1 h; split at this <;> omega
 ·rw [Lib.nDigits_small (by omega)]; omega
theorem zdd {a b:ByteArray} (h:a.data.toList = b.data.toList):Ending.returned (.string a) = .returned (.string b):=by
 have:a = b:=by
  cases a; cases b
  simp at h
  simp [h]
 rw [this]
set_option maxHeartbeats 1000000 in
theorem text_n1 (n:Int) (h:Wd.I64 n) (hn:n < 0) (hc:n.natAbs % 100 < 10) (w:World) (hG:Glb w) :
  Calls Tryz.prog 260 #[.int .i64 n] w fun e w'=>e = .returned (.string ⟨(Mn.text n).toArray⟩)∧Below w.heap.size w w':=by
 have hm:n.natAbs≤9223372036854775808:=by unfold Wd.I64 at h; omega
 have ht:Mn.text n = [45] ++ (Lib.decDigits (n.natAbs / 100) ++ (46 :: Mn.two (n.natAbs % 100))):=by unfold Mn.text Mn.sign; rw [if_pos hn]
 have hlen:(Lib.decDigits (n.natAbs / 100)).length≤20:=zcl _ (by omega)
 have sz:=hdq (zed n h)
 have hn':n < 0:=by omega
 clear h hn
 generalize n.natAbs = m at *
 have hd:=Lib.decDigits_one hc
 have h2:Mn.two (m % 100) = [48,UInt8.ofNat (48 + m % 100)]:=by unfold Mn.two; rw [show m % 100 / 10 = 0 by omega,show m % 100 % 10 = m % 100 by omega]; rfl
 have f1:=hdq (fun w hG=>hd ▸ zaz (m % 100) (by omega) w hG)
 rw [h2] at ht
 generalize UInt8.ofNat (48 + m % 100) = x at *
 have f2:=hdq (zaz (m / 100) (by omega))
 clear hd h2
 generalize Lib.decDigits (m / 100) = D at *
 have HT:=hdq ht
 clear ht
 go_enter Tryz.func260,Tryz.ntmps260
 go_wp2_with fail
 refine (sz.out _).mono ?_
 rintro _ w' ⟨rfl,rfl⟩
 go_wp2_with fail
 rw [show ((m:Int) % 100) = ((m % 100:Nat):Int) by omega]
 generalize m % 100 = c at *
 refine (f1.out _ hG).mono ?_
 rintro _ w1 ⟨rfl,hb1⟩
 go_wp2_with fail
 rw [show ((m:Int) / 100) = ((m / 100:Nat):Int) by omega]
 refine (f2.out _ (hG.below hb1)).mono ?_
 rintro _ w2 ⟨rfl,hb2⟩
 go_wp2
 go_ret
 refine ⟨?_,zab hb1 hb2⟩
 rw [HT.out]
 refine zdd ?_
 simp
set_option maxHeartbeats 1000000 in
theorem text_n2 (n:Int) (h:Wd.I64 n) (hn:n < 0) (hc:¬ n.natAbs % 100 < 10) (w:World) (hG:Glb w) :
  Calls Tryz.prog 260 #[.int .i64 n] w fun e w'=>e = .returned (.string ⟨(Mn.text n).toArray⟩)∧Below w.heap.size w w':=by
 have hm:n.natAbs≤9223372036854775808:=by unfold Wd.I64 at h; omega
 have ht:Mn.text n = [45] ++ (Lib.decDigits (n.natAbs / 100) ++ (46 :: Mn.two (n.natAbs % 100))):=by unfold Mn.text Mn.sign; rw [if_pos hn]
 have hlen:(Lib.decDigits (n.natAbs / 100)).length≤20:=zcl _ (by omega)
 have sz:=hdq (zed n h)
 have hn':n < 0:=by omega
 clear h hn
 generalize n.natAbs = m at *
 have hd:=Lib.decDigits_two hc (show m % 100 < 100 by omega)
 have h2:Mn.two (m % 100) = [UInt8.ofNat (48 + m % 100 / 10),UInt8.ofNat (48 + m % 100 % 10)]:=rfl
 have f1:=hdq (fun w hG=>hd ▸ zaz (m % 100) (by omega) w hG)
 rw [h2] at ht
 generalize UInt8.ofNat (48 + m % 100 / 10) = x at *
 generalize UInt8.ofNat (48 + m % 100 % 10) = y at *
 have f2:=hdq (zaz (m / 100) (by omega))
 clear hd h2
 generalize Lib.decDigits (m / 100) = D at *
 have HT:=hdq ht
 clear ht
 go_enter Tryz.func260,Tryz.ntmps260
 go_wp2_with fail
 refine (sz.out _).mono ?_
 rintro _ w' ⟨rfl,rfl⟩
 go_wp2_with fail
 rw [show ((m:Int) % 100) = ((m % 100:Nat):Int) by omega]
 generalize m % 100 = c at *
 refine (f1.out _ hG).mono ?_
 rintro _ w1 ⟨rfl,hb1⟩
 go_wp2_with fail
 rw [show ((m:Int) / 100) = ((m / 100:Nat):Int) by omega]
 refine (f2.out _ (hG.below hb1)).mono ?_
 rintro _ w2 ⟨rfl,hb2⟩
 go_wp2
 go_ret
 refine ⟨?_,zab hb1 hb2⟩
 rw [HT.out]
 refine zdd ?_
 simp
set_option maxHeartbeats 1000000 in
theorem text_p1 (n:Int) (h:Wd.I64 n) (hn:¬ n < 0) (hc:n.natAbs % 100 < 10) (w:World) (hG:Glb w) :
  Calls Tryz.prog 260 #[.int .i64 n] w fun e w'=>e = .returned (.string ⟨(Mn.text n).toArray⟩)∧Below w.heap.size w w':=by
 have hm:n.natAbs≤9223372036854775808:=by unfold Wd.I64 at h; omega
 have ht:Mn.text n = [] ++ (Lib.decDigits (n.natAbs / 100) ++ (46 :: Mn.two (n.natAbs % 100))):=by unfold Mn.text Mn.sign; rw [if_neg hn]
 have hlen:(Lib.decDigits (n.natAbs / 100)).length≤20:=zcl _ (by omega)
 have sz:=hdq (zed n h)
 have hn':0≤n:=by omega
 clear h hn
 generalize n.natAbs = m at *
 have hd:=Lib.decDigits_one hc
 have h2:Mn.two (m % 100) = [48,UInt8.ofNat (48 + m % 100)]:=by unfold Mn.two; rw [show m % 100 / 10 = 0 by omega,show m % 100 % 10 = m % 100 by omega]; rfl
 have f1:=hdq (fun w hG=>hd ▸ zaz (m % 100) (by omega) w hG)
 rw [h2] at ht
 generalize UInt8.ofNat (48 + m % 100) = x at *
 have f2:=hdq (zaz (m / 100) (by omega))
 clear hd h2
 generalize Lib.decDigits (m / 100) = D at *
 have HT:=hdq ht
 clear ht
 go_enter Tryz.func260,Tryz.ntmps260
 go_wp2_with fail
 refine (sz.out _).mono ?_
 rintro _ w' ⟨rfl,rfl⟩
 go_wp2_with fail
 rw [show ((m:Int) % 100) = ((m % 100:Nat):Int) by omega]
 generalize m % 100 = c at *
 refine (f1.out _ hG).mono ?_
 rintro _ w1 ⟨rfl,hb1⟩
 go_wp2_with fail
 rw [show ((m:Int) / 100) = ((m / 100:Nat):Int) by omega]
 refine (f2.out _ (hG.below hb1)).mono ?_
 rintro _ w2 ⟨rfl,hb2⟩
 go_wp2
 go_ret
 refine ⟨?_,zab hb1 hb2⟩
 rw [HT.out]
 refine zdd ?_
 simp
set_option maxHeartbeats 1000000 in
theorem text_p2 (n:Int) (h:Wd.I64 n) (hn:¬ n < 0) (hc:¬ n.natAbs % 100 < 10) (w:World) (hG:Glb w) :
  Calls Tryz.prog 260 #[.int .i64 n] w fun e w'=>e = .returned (.string ⟨(Mn.text n).toArray⟩)∧Below w.heap.size w w':=by
 have hm:n.natAbs≤9223372036854775808:=by unfold Wd.I64 at h; omega
 have ht:Mn.text n = [] ++ (Lib.decDigits (n.natAbs / 100) ++ (46 :: Mn.two (n.natAbs % 100))):=by unfold Mn.text Mn.sign; rw [if_neg hn]
 have hlen:(Lib.decDigits (n.natAbs / 100)).length≤20:=zcl _ (by omega)
 have sz:=hdq (zed n h)
 have hn':0≤n:=by omega
 clear h hn
 generalize n.natAbs = m at *
 have hd:=Lib.decDigits_two hc (show m % 100 < 100 by omega)
 have h2:Mn.two (m % 100) = [UInt8.ofNat (48 + m % 100 / 10),UInt8.ofNat (48 + m % 100 % 10)]:=rfl
 have f1:=hdq (fun w hG=>hd ▸ zaz (m % 100) (by omega) w hG)
 rw [h2] at ht
 generalize UInt8.ofNat (48 + m % 100 / 10) = x at *
 generalize UInt8.ofNat (48 + m % 100 % 10) = y at *
 have f2:=hdq (zaz (m / 100) (by omega))
 clear hd h2
 generalize Lib.decDigits (m / 100) = D at *
 have HT:=hdq ht
 clear ht
 go_enter Tryz.func260,Tryz.ntmps260
 go_wp2_with fail
 refine (sz.out _).mono ?_
 rintro _ w' ⟨rfl,rfl⟩
 go_wp2_with fail
 rw [show ((m:Int) % 100) = ((m % 100:Nat):Int) by omega]
 generalize m % 100 = c at *
 refine (f1.out _ hG).mono ?_
 rintro _ w1 ⟨rfl,hb1⟩
 go_wp2_with fail
 rw [show ((m:Int) / 100) = ((m / 100:Nat):Int) by omega]
 refine (f2.out _ (hG.below hb1)).mono ?_
 rintro _ w2 ⟨rfl,hb2⟩
 go_wp2
 go_ret
 refine ⟨?_,zab hb1 hb2⟩
 rw [HT.out]
 refine zdd ?_
 simp
theorem zlj (n:Int) (h:Wd.I64 n) (w:World) (hG:Glb w) :
  Calls Tryz.prog 260 #[.int .i64 n] w fun e w'=>e = .returned (.string ⟨(Mn.text n).toArray⟩)∧Below w.heap.size w w':=by
 by_cases hn:n < 0 <;> by_cases hc:n.natAbs % 100 < 10
 ·exact text_n1 n h hn hc w hG
 ·exact text_n2 n h hn hc w hG
 ·exact text_p1 n h hn hc w hG
 ·exact text_p2 n h hn hc w hG
namespace Dy
def ahead (y:Int):Int:=365 * (y - 1) + (y - 1) / 4 - (y - 1) / 100 + (y - 1) / 400 - 719162
def leap (y:Int):Bool:=y % 4 == 0 && (!(y % 100 == 0) || y % 400 == 0)
def months:List Int:=[31,28,31,30,31,30,31,31,30,31,30,31]
def long (y:Int) (m:Nat):Int:=if m = 2∧leap y = true then 29 else months.getD (m - 1) 0
end Dy
structure Glb5 (w:World):Prop where
 glb:Glb w
 mon : Lib.TabIs Tryz.prog w "transposal/day.months" .i64 Dy.months
theorem Glb5.below {w w':World} (h:Glb5 w) (hb:Below w.heap.size w w'):Glb5 w':=⟨h.glb.below hb,zdb h.mon hb⟩
theorem zbl (y:Int) (h:1≤y∧y≤10000) (w:World) :
  Calls Tryz.prog 149 #[.int .i64 y] w fun e w'=>e = .returned (.int .i64 (Dy.ahead y))∧w' = w:=by
 have e1:IntKind.i64.wrap (y - 1) = y - 1:=by rw [IntKind.wrap_i64]; omega
 go_enter Tryz.func149,Tryz.ntmps149
 go_wp2
 go_ret
 exact ⟨zkc rfl,rfl⟩
theorem ztz (y:Int) (h:1≤y∧y≤10000) (w:World) :
  Calls Tryz.prog 179 #[.int .i64 y] w fun e w'=>e = .returned (.bool (Dy.leap y))∧w' = w:=by
 unfold Dy.leap
 cases h1:(y % 4 == 0) <;> cases h2:(y % 100 == 0) <;> cases h3:(y % 400 == 0)
 all_goals
  have h2n:(y % 100 != 0) = !(y % 100 == 0):=rfl
  rw [h2] at h2n
  simp only [Bool.not_true,Bool.not_false] at h2n
  go_enter Tryz.func179,Tryz.ntmps179
  go_wp2
  go_ret
  exact ⟨rfl,rfl⟩
theorem zcj (y:Int) (m:Nat) (h:1≤y∧y≤10000) (h1:1≤m) (h2:m≤12) (w:World) (hM:Glb5 w) :
  Calls Tryz.prog 150 #[.int .i64 y,.int .i64 (m:Int)] w fun e w'=>e = .returned (.int .i64 (Dy.long y m))∧w' = w:=by
 have hc:w.cell? ⟨1,m - 1,none⟩ = some (.int .i64 (Dy.months.getD (m - 1) 0)):=Lib.TabIs.cell hM.mon (by kernel_rfl) (m - 1) (by show m - 1 < 12; omega)
 obtain ⟨i,hi⟩:∃ i:Nat,m - 1 = i:=⟨_,rfl⟩
 have em:IntKind.i64.wrap ((m:Int) - 1) = (i:Int):=by rw [IntKind.wrap_i64]; omega
 have i1:(0:Int)≤(i:Int):=by omega
 have i2:(i:Int) < 12:=by omega
 unfold Dy.long
 rw [hi] at hc ⊢
 generalize Dy.months.getD i 0 = x at *
 have LP:=hdq (ztz y h)
 by_cases hm:m = 2
 ·have hq:((m:Int) == 2) = true:=by rw [hm]; rfl
  clear hi
  cases hl:Dy.leap y with
  | true =>
   rw [hl] at LP
   rw [if_pos ⟨hm,rfl⟩]
   clear hm
   go_enter Tryz.func150,Tryz.ntmps150
   go_wp2_with fail
   refine (LP.out _).mono ?_
   rintro _ w1 ⟨rfl,rfl⟩
   go_wp2
   go_ret
   exact ⟨rfl,rfl⟩
  | false =>
   rw [hl] at LP
   rw [if_neg (by simp)]
   clear hm
   go_enter Tryz.func150,Tryz.ntmps150
   go_wp2_with fail
   refine (LP.out _).mono ?_
   rintro _ w1 ⟨rfl,rfl⟩
   go_wp2
   go_ret
   exact ⟨rfl,rfl⟩
 ·have hq:((m:Int) == 2) = false:=by rw [beq_eq_false_iff_ne]; omega
  rw [if_neg (fun h=>hm h.1)]
  clear hi hm
  go_enter Tryz.func150,Tryz.ntmps150
  go_wp2
  go_ret
  exact ⟨rfl,rfl⟩
open Go.ChangeShapes Go.WideShapes Go.ChangeAt Go.RowKit
noncomputable def laidL5 : List (String × DataW Unit) := [("math/bits.deBruijn32tab", Rows.laid_math_bits_deBruijn32tab), ("math/bits.deBruijn64tab", Rows.laid_math_bits_deBruijn64tab), ("internal/strconv.uint64pow10", Rows.laid_internal_strconv_uint64pow10), ("strconv.ErrRange", Rows.laid_strconv_ErrRange), ("strconv.ErrSyntax", Rows.laid_strconv_ErrSyntax), ("transposal/day.months", Rows.laid_transposal_day_months)]
theorem glb5_of {W:World} (h:laidMetH Tryz.prog laidL5 W) (hs:W.ShapedOpen Tryz.prog):Glb5 W:=by
 have h1 := h.filter (fun x => x.1 != "transposal/day.months")
 have e : laidL5.filter (fun x => x.1 != "transposal/day.months") = laidL := by kernel_rfl
 rw [e] at h1
 refine ⟨glb_of h1 hs,?_⟩
 have h2 := h.filter (fun x => x.1 == "transposal/day.months")
 have e2 : laidL5.filter (fun x => x.1 == "transposal/day.months") = [("transposal/day.months", Lib.tabData .i64 Dy.months)] := by kernel_rfl
 rw [e2] at h2
 exact Lib.tabIs_of_head (g:=1) (by kernel_rfl) (by kernel_rfl) Tryz.underlying258 Tryz.underlying3 (by kernel_rfl) (by kernel_rfl) h2
open Go.Maps (Keyed)
open Go.ChangeMaps (setBlock)
open Go.WideElems (Fit rd rg pl)
def triv:Value→Option (DataW Unit × List MemPlace):=fun _=>some (.nil,[])
section
variable {P:Program} {k t e:TypeId} {w:World} {b:Nat} {es:Array MapEntry} {clock:Nat}
def getV {ν:Type} (vl:ν→Value) (z:Value):Option ν→Value
 | some v=>vl v
 | none=>z
theorem zcg {o1 o2:Obj} (hb:w.heap[b]? = some (.map es clock)) (h:setBlock w b o1 = setBlock w b o2):o1 = o2:=by
 have h1:=congrArg (fun v:World=>v.heap[b]?) h
 rw [ChangeMaps.heap_setBlock_same hb,ChangeMaps.heap_setBlock_same hb] at h1
 exact Option.some.inj h1
theorem zpn (K:Keyed P k) (ht:P.underlying t = some (.map k e)) (hb:w.heap[b]? = some (.map es clock)) (F:Fit P k triv es clock) (hroom:es.size < maxLen)
  {key val:Value} {kl:Lit} (hkey:keyOf P k key = some kl) :
  ∃ es' clock',(Instr.mapUpdate t (.map (some b)) key val).run P w = .ok () (setBlock w b (.map es' clock'))∧Fit P k triv es' clock'∧es'.size≤es.size + 1 ∧
   (∀ x' ∈ es'.toList,(x' ∈ es.toList∧x'.key ≠ key)∨(x'.key = key∧x'.val = val))∧(∀ x ∈ es.toList,x.key ≠ key→x ∈ es'.toList)∧∃ x ∈ es'.toList,x.key = key∧x.val = val:=by
 obtain ⟨es1,clock1,hrun1,F1,_,_,_,hwho⟩:=Maps.fit_store (R':=triv) (val:=val) (yv:=(.nil,[])) K ht hb F hroom (fun _ _ _ _ hz=>hz) hkey rfl
 refine ⟨es1,clock1,hrun1,F1,?_,hwho,?_⟩
 all_goals
  rcases K.find w hkey es.toList F.keys with ⟨h1,h2⟩ | ⟨j,e0,h1,h2,h3⟩
 ·have hrun2:(Instr.mapUpdate t (.map (some b)) key val).run P w = .ok () (setBlock w b (.map (es.push ⟨key,val,clock⟩) (clock + 1))):=by
   simp [Instr.mapUpdate,run_underlying ht,MapKept.run_getObj_map hb,K.check w false hkey,h1,MapKept.run_setObj_map _ hb,Result.andThen,setBlock]
  rw [hrun1] at hrun2
  injection hrun2 with _ hrun2
  have h4:=zcg hb hrun2
  injection h4 with h4 _
  rw [h4]
  simp
 ·have hj:es[j]? = some e0:=by simpa using h2
  have hrun2:(Instr.mapUpdate t (.map (some b)) key val).run P w = .ok () (setBlock w b (.map (es.modify j (fun e'=>{ e' with key:=key,val:=val })) clock)):=by
   simp [Instr.mapUpdate,run_underlying ht,MapKept.run_getObj_map hb,K.check w false hkey,h1,hj,h3,K.stays w hkey,MapKept.run_setObj_map _ hb,Result.andThen,setBlock]
  rw [hrun1] at hrun2
  injection hrun2 with _ hrun2
  have h4:=zcg hb hrun2
  injection h4 with h4 _
  rw [h4]
  simp
 ·have hrun2:(Instr.mapUpdate t (.map (some b)) key val).run P w = .ok () (setBlock w b (.map (es.push ⟨key,val,clock⟩) (clock + 1))):=by
   simp [Instr.mapUpdate,run_underlying ht,MapKept.run_getObj_map hb,K.check w false hkey,h1,MapKept.run_setObj_map _ hb,Result.andThen,setBlock]
  rw [hrun1] at hrun2
  injection hrun2 with _ hrun2
  have h4:=zcg hb hrun2
  injection h4 with h4 _
  rw [h4]
  refine ⟨fun x hx _=>?_,⟨key,val,clock⟩,?_,rfl,rfl⟩
  ·simp only [Array.toList_push,List.mem_append]
   exact .inl hx
  ·simp
 ·have hj:es[j]? = some e0:=by simpa using h2
  have hrun2:(Instr.mapUpdate t (.map (some b)) key val).run P w = .ok () (setBlock w b (.map (es.modify j (fun e'=>{ e' with key:=key,val:=val })) clock)):=by
   simp [Instr.mapUpdate,run_underlying ht,MapKept.run_getObj_map hb,K.check w false hkey,h1,hj,h3,K.stays w hkey,MapKept.run_setObj_map _ hb,Result.andThen,setBlock]
  rw [hrun1] at hrun2
  injection hrun2 with _ hrun2
  have h4:=zcg hb hrun2
  injection h4 with h4 _
  have hlt:j < es.size:=by
   by_cases c:j < es.size
   ·exact c
   ·rw [Array.getElem?_eq_none (by omega)] at hj; cases hj
  rw [h4]
  refine ⟨fun x hx hne=>?_,{ e0 with key:=key,val:=val },?_,rfl,rfl⟩
  ·obtain ⟨i,hi,ex⟩:=List.getElem_of_mem hx
   refine List.mem_iff_getElem?.2 ⟨i,?_⟩
   rw [Array.getElem?_toList,Array.getElem?_modify,if_neg]
   ·simpa [Array.getElem?_eq_getElem (by simpa using hi)] using ex
   ·intro e
    subst e
    rw [List.getElem?_eq_getElem hi] at h2
    have e2:=Option.some.inj h2
    rw [ex] at e2
    exact hne (e2 ▸ h3)
  ·refine List.mem_iff_getElem?.2 ⟨j,?_⟩
   rw [Array.getElem?_toList,Array.getElem?_modify,if_pos rfl,hj]
   rfl
def MapIs {κ ν:Type} (w:World) (P:Program) (k:TypeId) (enc:κ→Value) (vl:ν→Value) (b n:Nat) (G:κ→Option ν):Prop :=
 ∃ es clock,w.heap[b]? = some (.map es clock)∧Fit P k triv es clock∧es.size≤n∧(∀ x ∈ es.toList,∃ c v,x.key = enc c∧x.val = vl v∧G c = some v)∧∀ c v,G c = some v→∃ x ∈ es.toList,x.key = enc c∧x.val = vl v
variable {κ ν:Type} {enc:κ→Value} {vl:ν→Value} {G:κ→Option ν} {n:Nat}
theorem MapIs.new (w:World) (P:Program) (k:TypeId) (enc:κ→Value) (vl:ν→Value):MapIs (w.alloc (.map #[] 0)) P k enc vl w.heap.size 0 (fun _=>none) :=
 ⟨#[],0,Go.heap_alloc_new w _,⟨Nat.zero_le _,⟨by simp,by simp,by simp⟩,by simp⟩,Nat.le_refl _,by simp,by simp⟩
theorem MapIs.below {w w':World} (h:MapIs w P k enc vl b n G) (hb:Below w.heap.size w w'):MapIs w' P k enc vl b n G:=by
 obtain ⟨es,clock,h1,h2⟩:=h
 have hlt:b < w.heap.size:=by
  by_cases c:b < w.heap.size
  ·exact c
  ·rw [Array.getElem?_eq_none (by omega)] at h1; cases h1
 exact ⟨es,clock,(hb.block b hlt).trans h1,h2⟩
theorem MapIs.lt {w:World} (h:MapIs w P k enc vl b n G):b < w.heap.size:=by
 obtain ⟨es,clock,h1,h2⟩:=h
 by_cases c:b < w.heap.size
 ·exact c
 ·rw [Array.getElem?_eq_none (by omega)] at h1; cases h1
theorem MapIs.look {w:World} (h:MapIs w P k enc vl b n G) (K:Keyed P k) (ht:P.underlying t = some (.map k e)) (hinj:∀ c d,enc c = enc d→c = d) {z:Value} (hz:(zeroValue e).run P w = .ok z w) (c:κ) {kl:Lit} (hkey:keyOf P k (enc c) = some kl) :
  (Instr.lookup t (.map (some b)) (enc c) false).run P w = .ok (getV vl z (G c)) w:=by
 obtain ⟨es,clock,hb,F,_,H1,H2⟩:=h
 rcases Maps.fit_look false K ht hz hb F hkey with ⟨hrun,hno,_⟩ | ⟨e0,y,he0,hke,hrun,_⟩
 ·have hG:G c = none:=by
   cases hG:G c with
   | none=>rfl
   | some v =>
    obtain ⟨x,hx,hk,_⟩:=H2 c v hG
    exact absurd hk (hno x hx)
  rw [hG]
  exact hrun
 ·obtain ⟨c',v,h1,h2,h3⟩:=H1 e0 he0
  have e1:c' = c:=hinj _ _ (h1.symm.trans hke)
  subst e1
  rw [h3]
  show _ = Result.ok (vl v) w
  rw [← h2]
  exact hrun
theorem MapIs.store [DecidableEq κ] {w:World} (h:MapIs w P k enc vl b n G) (K:Keyed P k) (ht:P.underlying t = some (.map k e)) (hinj:∀ c d,enc c = enc d→c = d) (hn:n < maxLen) (c:κ) (v:ν) {kl:Lit} (hkey:keyOf P k (enc c) = some kl) :
  ∃ w',(Instr.mapUpdate t (.map (some b)) (enc c) (vl v)).run P w = .ok () w'∧MapIs w' P k enc vl b (n + 1) (fun d=>if d = c then some v else G d)∧w.grownBy w' (some b):=by
 obtain ⟨es,clock,hb,F,hs,H1,H2⟩:=h
 obtain ⟨es',clock',hrun,F',hs',hwho,hkept,x0,hx0,hk0,hv0⟩:=zpn (val:=vl v) K ht hb F (Nat.lt_of_le_of_lt hs hn) hkey
 refine ⟨_,hrun,⟨es',clock',ChangeMaps.heap_setBlock_same hb _,F',by omega,fun x hx=>?_,fun d u hd=>?_⟩,⟨rfl,rfl,rfl,by simp [setBlock],fun i _ hi=>ChangeMaps.heap_setBlock_other hb _ (fun e=>hi (by rw [e]))⟩⟩
 ·rcases hwho x hx with ⟨ho,hne⟩ | ⟨h1,h2⟩
  ·obtain ⟨d,u,h1,h2,h3⟩:=H1 x ho
   exact ⟨d,u,h1,h2,by dsimp only; rw [if_neg (fun e=>hne (by rw [h1,e]))]; exact h3⟩
  ·exact ⟨c,v,h1,h2,by dsimp only; rw [if_pos rfl]⟩
 ·dsimp only at hd
  by_cases e1:d = c
  ·rw [if_pos e1] at hd
   obtain rfl:=Option.some.inj hd
   exact ⟨x0,hx0,by rw [e1]; exact hk0,hv0⟩
  ·rw [if_neg e1] at hd
   obtain ⟨x,hx,h1,h2⟩:=H2 d u hd
   exact ⟨x,hkept x hx (fun h=>e1 (hinj _ _ (h1.symm.trans h))),h1,h2⟩
theorem MapIs.moved {w w1:World} {es1:Array MapEntry} {clock1:Nat} {o:Obj} (h:MapIs (setBlock w b (.map es1 clock1)) P k enc vl b n G) (hb:w.heap[b]? = some (.map es clock)) (h1:w1.heap[b]? = some (.map es1 clock1)):MapIs w1 P k enc vl b n G:=by
 obtain ⟨es2,clock2,hb2,rest⟩:=h
 rw [ChangeMaps.heap_setBlock_same hb] at hb2
 injection hb2 with hb2
 injection hb2 with e1 e2
 subst e1 e2
 exact ⟨_,_,h1,rest⟩
end
end Go.Proofs.YtlpdfglbdijkoaaGreatDoor