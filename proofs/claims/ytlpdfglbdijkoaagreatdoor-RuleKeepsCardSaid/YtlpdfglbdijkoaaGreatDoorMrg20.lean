/-
  Own texts, several in one (Scr1, Laid13, Scr2, Scr3).
-/
import Derived.Test.YtlpdfglbdijkoaaGreatDoorMrg18
import Derived.Test.YtlpdfglbdijkoaaGreatDoorShelfC
import Derived.Test.YtlpdfglbdijkoaaGreatDoorMrg19
import Derived.Shelf.Strings.OnBuilder
import Derived.Test.YtlpdfglbdijkoaaGreatDoorMrg3
namespace Go.Proofs.YtlpdfglbdijkoaaGreatDoor
open Go.RowKit
set_option linter.unusedVariables false
set_option linter.unusedSimpArgs false
def wordCells:Array Value:=#[.string ⟨(Sc.word 0).toArray⟩,.string ⟨(Sc.link 0).toArray⟩,.string ⟨(Sc.word 1).toArray⟩,.string ⟨(Sc.link 1).toArray⟩,.string ⟨(Sc.word 2).toArray⟩,.string ⟨(Sc.link 2).toArray⟩,.string ⟨(Sc.word 3).toArray⟩,.string ⟨(Sc.link 3).toArray⟩,
 .string ⟨(Sc.word 4).toArray⟩,.string ⟨(Sc.link 4).toArray⟩,.string ⟨(Sc.word 5).toArray⟩,.string ⟨(Sc.link 5).toArray⟩,.string ⟨(Sc.word 6).toArray⟩,.string ⟨(Sc.link 6).toArray⟩,.string ⟨(Sc.word 7).toArray⟩,.string ⟨(Sc.link 7).toArray⟩]
structure Glb13 (w:World):Prop where
 g5:Glb5 w
 words : w.var? Tryz.prog "transposal/script.words" = some wordCells
theorem Glb13.below {w w':World} (h:Glb13 w) (hb:Below w.heap.size w w'):Glb13 w':=⟨h.g5.below hb,zdb h.words hb⟩
theorem Glb13.word {w:World} (h:Glb13 w) (k:Nat) (hk:k < 8):w.cell? ⟨0,k * 2,none⟩ = some (.string ⟨(Sc.word k).toArray⟩)∧w.cell? ⟨0,k * 2 + 1,none⟩ = some (.string ⟨(Sc.link k).toArray⟩):=by
 have hc:=fun i=>zfc h.words (g:=0) (by kernel_rfl) i
 rcases k with _ | _ | _ | _ | _ | _ | _ | _ | k
 all_goals (first | (omega) | exact ⟨hc _,hc _⟩)
set_option maxHeartbeats 1000000 in
theorem zlh (k:Nat) (hk:k < 8) (w:World) (hM:Glb13 w) :
  Calls Tryz.prog 111 #[.int .i64 (k:Int)] w fun e w'=>e = .returned (.string ⟨(Sc.word k).toArray⟩)∧w' = w:=by
 have hc:=(hM.word k hk).1
 have q0:¬ (k:Int) < 0:=by omega
 have q1:¬ (8:Int)≤(k:Int):=by omega
 have i0:(0:Int)≤(k:Int):=by omega
 have i1:(k:Int) < 8:=by omega
 generalize Sc.word k = x at *
 clear hM
 go_enter Tryz.func111,Tryz.ntmps111
 go_wp2_with fail
 go_ret
 exact ⟨rfl,rfl⟩
set_option maxHeartbeats 1000000 in
theorem zmf (k:Nat) (hk:k < 8) (w:World) (hM:Glb13 w) :
  Calls Tryz.prog 113 #[.int .i64 (k:Int)] w fun e w'=>e = .returned (.string ⟨(Sc.link k).toArray⟩)∧w' = w:=by
 have hc:=(hM.word k hk).2
 have q0:¬ (k:Int) < 0:=by omega
 have q1:¬ (8:Int)≤(k:Int):=by omega
 have i0:(0:Int)≤(k:Int):=by omega
 have i1:(k:Int) < 8:=by omega
 generalize Sc.link k = x at *
 clear hM
 go_enter Tryz.func113,Tryz.ntmps113
 go_wp2_with fail
 go_ret
 exact ⟨rfl,rfl⟩
theorem zba (n:Int) (w:World):Calls Tryz.prog 13 #[.int .i64 n] w fun e w'=>e = .returned (.bool (decide (n = 5) || decide (n = 6)))∧w' = w:=by
 by_cases c1:n = 5
 ·subst c1
  go_enter Tryz.func13,Tryz.ntmps13
  go_wp2_with fail
  go_ret
  exact ⟨rfl,rfl⟩
 ·by_cases c2:n = 6
  ·subst c2
   go_enter Tryz.func13,Tryz.ntmps13
   go_wp2_with fail
   go_ret
   exact ⟨rfl,rfl⟩
  ·rw [decide_eq_false c1,decide_eq_false c2]
   have e1:(n == 5) = false:=beq_eq_false_iff_ne.2 c1
   have e2:(n == 6) = false:=beq_eq_false_iff_ne.2 c2
   clear c1 c2
   go_enter Tryz.func13,Tryz.ntmps13
   go_wp2_with fail
   go_ret
   exact ⟨rfl,rfl⟩
theorem zfn (n:Nat) (h:n≤4294967295) (w:World) (hG:Glb w) :
  Calls Tryz.prog 116 #[.int .u32 (n:Int)] w fun e w'=>e = .returned (.string ⟨(Sc.dec n).toArray⟩)∧Below w.heap.size w w':=by
 have HF:=hdq (zaz n (by omega) w hG)
 have e1:IntKind.u64.wrap (n:Int) = (n:Int):=by rw [IntKind.wrap_u64]; omega
 clear hG
 go_enter Tryz.func116,Tryz.ntmps116
 go_wp2_with fail
 refine HF.out.mono ?_
 rintro _ w1 ⟨rfl,hb⟩
 go_wp2
 go_ret
 exact ⟨rfl,hb⟩
theorem zhi (n:Int) (h:Wd.I64 n) (w:World) (hG:Glb w) :
  Calls Tryz.prog 117 #[.int .i64 n,.int .i64 10] w fun e w'=>e = .returned (.string ⟨(Lib.itoa n).toArray⟩)∧Below w.heap.size w w':=by
 unfold Wd.I64 at h
 have HI:=hdq (Any.internal_strconv_FormatInt_10 Tryz.laysM246 n h.1 h.2 w hG.pow)
 clear hG h
 go_enter Tryz.func117,Tryz.ntmps117
 go_wp2_with fail
 refine HI.out.mono ?_
 rintro _ w1 ⟨rfl,k,os,rfl⟩
 have hb:=Lib.below_grow w.heap.size w (Nat.le_refl _) k os
 generalize Go.Sort.grow (w.drewN k) os = w2 at *
 go_wp2
 go_ret
 exact ⟨rfl,hb⟩
def sv (l:List (List UInt8)):List Value:=l.map fun x=>.string ⟨x.toArray⟩
theorem zuy (l m:List (List UInt8)):sv (l ++ m) = sv l ++ sv m:=by simp [sv]
theorem zmg (B n:Nat) (v:Value) (xs:List (List UInt8)) (sep:List UInt8) (w:World) (h:w.ownsRow B 9 1 v n (sv xs)) (hn:xs.length≤1000) (hl:(Lib.join xs sep).length≤10000000) :
  Calls Tryz.prog 118 #[v,.string ⟨sep.toArray⟩] w fun e w'=>e = .returned (.string ⟨(Lib.join xs sep).toArray⟩)∧Below w.heap.size w w':=by
 obtain ⟨h1,h2⟩:=h
 have hln:xs.length = n:=by simpa [sv] using h1
 have hmap:(xs.map fun x=>(⟨x.toArray⟩:ByteArray)).map (·.data.toList) = xs:=by
  rw [List.map_map]
  simp [Function.comp_def]
 rcases h2 with ⟨rfl,rfl⟩ | ⟨g,cap,cur,rfl,_,hh,hc,_,hs,ht⟩
 ·obtain rfl:=List.length_eq_zero_iff.1 hln
  exact (Any.strings_Join_none Tryz.lays156 Tryz.Builder_Extra_156 none 0 _ w).mono fun e w' ⟨he,hw⟩=>⟨he,hw ▸ Below.refl _ _⟩
 ·have hlt:g < w.heap.size:=by
   by_cases c:g < w.heap.size
   ·exact c
   ·rw [Array.getElem?_eq_none (by omega)] at hh; cases hh
  have hj:=Any.strings_Join Tryz.lays156 Tryz.Builder_Extra_156 g 0 cap (xs.map fun x=>(⟨x.toArray⟩:ByteArray)) ⟨sep.toArray⟩ w (fun j x hx=>by
   rw [Nat.zero_add,cell_of_row w g j cur _ _ hh]
   have e1:(sv xs)[j]? = some (.string x):=by
    unfold sv
    rw [List.getElem?_map] at hx ⊢
    cases hxx:xs[j]? with
    | none=>rw [hxx] at hx; cases hx
    | some y=>rw [hxx] at hx; simp only [Option.map_some,Option.some.injEq] at hx ⊢; rw [hx]
   have hjl:j < n:=by
    rw [← hln]
    by_cases c:j < xs.length
    ·exact c
    ·unfold sv at e1; rw [List.getElem?_map,List.getElem?_eq_none (by omega)] at e1; cases e1
   rw [← ht,Nat.mul_one,List.getElem?_take,if_pos hjl] at e1
   simpa using e1) hlt (by simp; omega) (by simp; omega) (by rw [hmap]; simpa using Nat.le_trans hl (by omega))
  rw [hmap,List.length_map,hln,show (⟨sep.toArray⟩:ByteArray).data.toList = sep by simp] at hj
  exact hj
open Go.ChangeShapes Go.WideShapes Go.ChangeAt Go.RowKit
theorem zhp {H:Type} {enc:TypeId × Value→H} {P:Program} {w:World} {base:Nat} {sp:Nat→Bool} {held:Bool} {fuel:Nat} {t e:TypeId} {n:Nat} {cs:List Value} {ss:List (List UInt8)} {p:List MemPlace}
  (ht:P.underlying t = some (.array n e)) (he:P.underlying e = some .string) (hce:P.cellsOf e = 1) (hct:P.cellsOf t = n)
  (h:DataW.trod enc P w base sp held fuel t cs = some (.agg (ss.map fun s=>.lit (.string s)),p)):cs = ss.map fun s=>Value.string ⟨s.toArray⟩:=by
 cases fuel with
 | zero=>simp [DataW.trod] at h
 | succ fuel =>
  simp only [DataW.trod,ht,hce,hct,Nat.mul_one] at h
  split at h
  ·rename_i hl
   obtain ⟨xs,hm,hx⟩:=Option.map_eq_some_iff.1 h
   have hxs:xs.map (·.1) = ss.map fun s=>(DataW.lit (.string s):DataW H):=by
    have:=congrArg Prod.fst hx
    simpa using this
   have hxl:xs.length = n:=by simpa using Lib.mapM_length hm
   have hzl:ss.length = n:=by
    have:=congrArg List.length hxs
    simp at this
    omega
   apply List.ext_getElem?
   intro i
   by_cases hi:i < n
   ·obtain ⟨b,hb,hf⟩:=Lib.mapM_at hm i i (by simp [hi])
    obtain ⟨z,hc,rfl,_⟩:=DataW.trod_string he hf
    have h1:cs[i]? = some (.string z):=by
     have:=congrArg (·[0]?) hc
     simpa [List.getElem?_take,List.getElem?_drop] using this
    have h2:(xs.map (·.1))[i]? = some (DataW.lit (.string z.data.toList):DataW H):=by simp [hb]
    rw [hxs] at h2
    simp only [List.getElem?_map,Option.map_eq_some_iff,DataW.lit.injEq,Lit.string.injEq] at h2
    obtain ⟨z',hz',e2⟩:=h2
    rw [h1,List.getElem?_map,hz',e2]
    simp
   ·rw [List.getElem?_eq_none (by omega),List.getElem?_eq_none (by simp; omega)]
  ·cases h
theorem zgg {H:Type} {enc:TypeId × Value→H} {P:Program} {w:World} {base:Nat} {sp:Nat→Bool} {held:Bool} {fuel:Nat} {t u e:TypeId} {n:Nat} {cs:List Value} {ss:List (List UInt8 × List UInt8)} {p:List MemPlace}
  (ht:P.underlying t = some (.array n u)) (hu:P.underlying u = some (.array 2 e)) (he:P.underlying e = some .string) (hce:P.cellsOf e = 1) (hcu:P.cellsOf u = 2) (hct:P.cellsOf t = n * 2)
  (h:DataW.trod enc P w base sp held fuel t cs = some (.agg (ss.map fun s=>.agg [.lit (.string s.1),.lit (.string s.2)]),p)):cs = ss.flatMap fun s=>[Value.string ⟨s.1.toArray⟩,Value.string ⟨s.2.toArray⟩]:=by
 cases fuel with
 | zero=>simp [DataW.trod] at h
 | succ fuel =>
  simp only [DataW.trod,ht,hcu,hct] at h
  split at h
  ·rename_i hl
   obtain ⟨xs,hm,hx⟩:=Option.map_eq_some_iff.1 h
   have hxs:xs.map (·.1) = ss.map fun s=>(DataW.agg [.lit (.string s.1),.lit (.string s.2)]:DataW H):=by
    have:=congrArg Prod.fst hx
    simpa using this
   have hxl:xs.length = n:=by simpa using Lib.mapM_length hm
   have hzl:ss.length = n:=by
    have:=congrArg List.length hxs
    simp at this
    omega
   have hpiece:∀ i (hi:i < n),(cs.drop (i * 2)).take 2 = [Value.string ⟨(ss[i]'(by omega)).1.toArray⟩,Value.string ⟨(ss[i]'(by omega)).2.toArray⟩]:=fun i hi=>by
    obtain ⟨b,hb,hf⟩:=Lib.mapM_at hm i i (by simp [hi])
    have h2:(xs.map (·.1))[i]? = some b.1:=by simp [hb]
    rw [hxs,List.getElem?_map,List.getElem?_eq_getElem (by omega)] at h2
    simp only [Option.map_some,Option.some.injEq] at h2
    obtain ⟨b1,b2⟩:=b
    subst h2
    exact zhp (ss:=[(ss[i]'(by omega)).1,(ss[i]'(by omega)).2]) hu he hce hcu hf
   apply List.ext_getElem?
   intro j
   have key:∀ (l:List (List UInt8 × List UInt8)) (j:Nat),j < l.length * 2→(l.flatMap fun s=>[Value.string ⟨s.1.toArray⟩,Value.string ⟨s.2.toArray⟩])[j]? = [Value.string ⟨(l.getD (j / 2) ([],[])).1.toArray⟩,Value.string ⟨(l.getD (j / 2) ([],[])).2.toArray⟩][j % 2]?:=fun l=>by
    induction l with
    | nil=>intro j h; simp at h
    | cons s l ih =>
     intro j hj
     rw [List.flatMap_cons]
     rcases j with _ | _ | j
     ·rfl
     ·rfl
     ·rw [List.getElem?_append_right (by simp),show j + 1 + 1 - [Value.string ⟨s.1.toArray⟩,Value.string ⟨s.2.toArray⟩].length = j by simp,ih j (by simp at hj; omega),show (j + 1 + 1) / 2 = j / 2 + 1 by omega,show (j + 1 + 1) % 2 = j % 2 by omega,List.getD_cons_succ]
   by_cases hj:j < n * 2
   ·have hp:=hpiece (j / 2) (by omega)
    have hgd:ss.getD (j / 2) ([],[]) = ss[j / 2]'(by omega):=by rw [List.getD_eq_getElem?_getD,List.getElem?_eq_getElem (by omega)]; rfl
    rw [key ss j (by omega),hgd]
    have h1:=congrArg (·[j % 2]?) hp
    simp only [List.getElem?_take,List.getElem?_drop] at h1
    rw [if_pos (by omega),show j / 2 * 2 + j % 2 = j by omega] at h1
    exact h1
   ·have hfl:∀ l:List (List UInt8 × List UInt8),(l.flatMap fun s=>[Value.string ⟨s.1.toArray⟩,Value.string ⟨s.2.toArray⟩]).length = l.length * 2:=fun l=>by
     induction l with
     | nil=>rfl
     | cons s l ih=>rw [List.flatMap_cons,List.length_append,ih,List.length_cons]; simp; omega
    rw [List.getElem?_eq_none (by omega),List.getElem?_eq_none (by rw [hfl]; omega)]
  ·cases h
noncomputable def laidL13 : List (String × DataW Unit) := laidL5 ++ [("transposal/script.words", Rows.laid_transposal_script_words)]
theorem zgx {W : World} (h : laidMet Tryz.prog [("transposal/script.words", Rows.laid_transposal_script_words)] W) : W.var? Tryz.prog "transposal/script.words" = some wordCells := by
 obtain ⟨ps,⟨g',t',cs,fuel,p,q,hg',ht',hvar,hd,_,_⟩,_⟩:=h
 obtain rfl := Option.some.inj ((show Tryz.prog.globalNamed "transposal/script.words" = some 0 by kernel_rfl).symm.trans hg')
 obtain rfl:=Option.some.inj ((show (Tryz.prog.globals[0]?).map (·.type) = some 233 by kernel_rfl).symm.trans ht')
 have e:=zgg (ss:=(List.range 8).map fun k=>(Sc.word k,Sc.link k)) Tryz.underlying233 Tryz.underlying232 Tryz.underlying9 (by kernel_rfl) (by kernel_rfl) (by kernel_rfl) hd
 have e2:cs = wordCells:=Array.toList_inj.1 (e.trans rfl)
 rw [hvar,e2]
theorem zue {W:World} (h:laidMetH Tryz.prog laidL13 W) (hs:W.ShapedOpen Tryz.prog):Glb13 W:=by
 have h1 := h.filter (fun x => x.1 != "transposal/script.words")
 have e : laidL13.filter (fun x => x.1 != "transposal/script.words") = laidL5 := by kernel_rfl
 rw [e] at h1
 refine ⟨glb5_of h1 hs,?_⟩
 have h2 := h.filter (fun x => x.1 == "transposal/script.words")
 have e2 : laidL13.filter (fun x => x.1 == "transposal/script.words") = [("transposal/script.words", Rows.laid_transposal_script_words)] := by kernel_rfl
 rw [e2] at h2
 exact zgx h2
theorem zoj (os:Os) (args:Array Value):laidMetH Tryz.prog laidL13 ((wd os).forCall (fun _ _=>0) ⟨#[],args,[]⟩).memory :=
 laidMetH_of_parts3 (fuel:=8) (laidMet_of_run' 8 (by kernel_rfl) (by kernel_rfl)) (by kernel_rfl) (by kernel_rfl)
def ptv (p:Nat × Nat):List Value:=[.int .u32 (p.1:Int),.int .i64 (p.2:Int)]
def PtsAt (w:World) (v:Value) (l:List (Nat × Nat)):Prop:=∃ p cap,v = .slice p l.length cap∧ElsAt ptv 2 (0,0) w p l
theorem PtsAt.below {w w':World} {v:Value} {l:List (Nat × Nat)} (h:PtsAt w v l) (hb:Below w.heap.size w w'):PtsAt w' v l:=by
 obtain ⟨p,cap,e,h⟩:=h
 exact ⟨p,cap,e,h.below hb⟩
def opc (o:Sc.Op) (vp vs:Value):List Value:=[.int .i64 (o.kind:Int),.int .u32 (o.fr:Int),.int .u32 (o.too:Int),.string ⟨o.name.toArray⟩,vp,vs,.int .i32 o.fin,.int .i64 (o.pos:Int)]
structure Sc.Op.can (o:Sc.Op):Prop where
 kind:o.kind < 8
 fr:o.fr≤4294967295
 too:o.too≤4294967295
 name:o.name.length≤1000
 parts:(o.kind = 4→0 < o.parts.length)∧o.parts.length≤100∧∀ p ∈ o.parts,p.1≤4294967295∧p.2≤4294967295
 starts:o.starts.length≤100
 pos:o.pos≤1000000
theorem zmj:∃ i,Tryz.prog.info? 9 = some i∧i.zero = some (.string ByteArray.empty)∧i.size = 1∧i.bytes = 16:=by
 have h:(Tryz.prog.info? 9).map (fun i=>(i.zero,i.size,i.bytes)) = some (some (.string ByteArray.empty),1,16):=by kernel_rfl
 obtain ⟨i,hi,h⟩:=Option.map_eq_some_iff.1 h
 simp only [Prod.mk.injEq] at h
 exact ⟨i,hi,h.1,h.2.1,h.2.2⟩
theorem zux (l:List (List UInt8)):∀ u ∈ sv l,u.oneCell' = true:=by
 intro u hu
 obtain ⟨x,_,rfl⟩:=List.mem_map.1 hu
 rfl
theorem zox (W:World) (B:Nat) (ty:TypeId) (v:Value) (xs ys:List (List UInt8)) (hown:W.ownsRow B 9 1 v xs.length (sv xs)) (g:Nat) (RG:Row W g (sv ys).toArray 9) (hn:xs.length≤1000∧ys.length≤1000) (hB:B≤W.heap.size) :
  ∃ v' w',(Builtin.append_ #[137,137] ty #[v,.slice (some ⟨g,0,none⟩) ys.length ys.length]).run Tryz.prog W = .ok v' w'∧w'.ownsRow B 9 1 v' (xs ++ ys).length (sv (xs ++ ys))∧Below B W w':=by
 obtain ⟨i,hi,h1,h2,h3⟩:=zmj
 obtain ⟨v',w',hr,k2,k3,k4,k5⟩:=run_append_own_at (P:=Tryz.prog) W B 137 ty 9 i (.string ByteArray.empty) 1 16 Tryz.underlying137 hi h1 h2 h3 rfl (by omega) v xs.length (sv xs) hown ⟨g,0,none⟩ ys.length ys.length (sv ys) (by simp [sv]) (fun j u hj=>by
  rw [zbo,Nat.zero_add,RG.cell j]
  simpa using hj) (zux ys) (by unfold maxLen; omega) (by omega) hB
 refine ⟨v',w',hr,by rw [zuy,List.length_append]; exact k2,(Below.refl B W).grown k3 hB ?_⟩
 intro k hk
 exact (zbc hown hk).1
theorem zsl (k:Nat) (h:k < 8):(Sc.word k).length≤8 :=
 (show ∀ k < 8,(Sc.word k).length≤8 by decide) k h
theorem zty (k:Nat) (h:k < 8):(Sc.link k).length≤8 :=
 (show ∀ k < 8,(Sc.link k).length≤8 by decide) k h
theorem zrm (x:List UInt8) (l:List (List UInt8)):Lib.join (x :: l) [32] = x ++ l.flatMap fun y=>32 :: y:=by
 rw [Lib.join_cons]
 unfold Lib.joinTail
 rw [List.flatMap_def]
 rfl
theorem zgo (p:Nat × Nat) (r:List (Nat × Nat)):32 :: Lib.join ((p :: r).map fun q=>Sc.dec q.1 ++ (32 :: Sc.dec q.2)) [44,32] = Sc.partsT (p :: r):=by
 show _ = Sc.part p ++ r.flatMap fun q=>44 :: Sc.part q
 rw [List.map_cons,Lib.join_cons]
 unfold Lib.joinTail Sc.part
 rw [List.map_map,List.flatMap_def]
 rfl
theorem zpm (z:List UInt8):(⟨(z ++ [59]).toArray⟩:ByteArray) = ⟨z.toArray⟩ ++ ⟨#[59]⟩:=by
 apply ByteArray.ext
 simp
theorem zpr {w:World} {B g n:Nat} {xs:List (List UInt8)} (R:Row w g (sv xs).toArray 9) (hB:B≤g) (hn:n = xs.length) (hx:xs.length≤1000):w.ownsRow B 9 1 (.slice (some ⟨g,0,none⟩) n n) n (sv xs):=by
 subst hn
 have hl:(sv xs).length = xs.length:=by simp [sv]
 exact ⟨by omega,.inr ⟨g,xs.length,(sv xs).toArray,rfl,hB,R,Nat.le_refl _,by unfold maxLen; omega,by simp [hl],by simp only; rw [List.take_of_length_le (by omega)]⟩⟩
end Go.Proofs.YtlpdfglbdijkoaaGreatDoor