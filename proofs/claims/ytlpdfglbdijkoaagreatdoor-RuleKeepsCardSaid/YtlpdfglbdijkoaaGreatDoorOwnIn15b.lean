/-
  Own texts, several in one (In15b, InsC, PutC, WithC).
-/
import Derived.Test.YtlpdfglbdijkoaaGreatDoorOwnOf15
import Derived.Test.YtlpdfglbdijkoaaGreatDoorOwnGet6
import Derived.Test.YtlpdfglbdijkoaaGreatDoorMrg11
import Derived.Laws.OwnMore
namespace Go.Proofs.YtlpdfglbdijkoaaGreatDoor
open Go.RowKit Go.ChangeShapes Go.WideShapes
set_option linter.unusedVariables false
set_option linter.unusedSimpArgs false
section
variable {H:Type} {enc:TypeId × Value→H} {W:World} {base:Nat} {sp:Nat→Bool} {held:Bool}
set_option maxRecDepth 100000 in
theorem open_o1 {r:Reach} {b0:Nat} {v:Value} {d:DataW H} {ps:List MemPlace} (hval:Value.okWide Tryz.prog W r b0 31 v) (h:DataW.Trod enc Tryz.prog W base sp held 31 v d ps) :
  ∃ (x:Sc.O) (vp vl:Value),v = .agg (ov x vp vl).toArray∧x.ok∧PosAt W vp x.parts∧NsAt .u8 W vl x.long:=by
 obtain ⟨cs,rfl,hsz⟩:=okWide_struct Tryz.underlying31 hval
 obtain ⟨n,h⟩:=h
 obtain ⟨⟨x,vp,vl⟩,hx,e⟩:=rd_o _ _ _ h
 refine ⟨x,vp,vl,?_,hx.1,hx.2.1,hx.2.2⟩
 have e2:cs = (ov x vp vl).toArray:=Array.toList_inj.1 (by rw [List.toList_toArray]; exact e)
 rw [e2]
end
open Go.RowKit
theorem zgc {P:Program} {W:World} {g:Nat} {cur:Array Value} {t:TypeId} (k:Nat) (R:Row W g cur t) (dT sT ty elem:TypeId) (o dLen dCap sb so sLen sCap:Nat) (cs:List Value)
  (hu:P.underlying dT = some (.slice elem)) (hs:(P.info? elem).map (·.size) = some k) (hn:cs.length = Nat.min sLen dLen * k) (hsrc:∀ j v,cs[j]? = some v→W.cell? ⟨sb,so + j,none⟩ = some v) (ho:o + cs.length≤cur.size) (h1:∀ v ∈ cs,v.oneCell' = true) :
  (Builtin.copy_ #[dT,sT] ty #[.slice (some ⟨g,o,none⟩) dLen dCap,.slice (some ⟨sb,so,none⟩) sLen sCap]).run P W = .ok (goInt (Nat.min sLen dLen)) (W.setCells g o cs):=by
 have hl:=run_loadCells_list (P:=P) W ⟨sb,so,none⟩ cs (fun j v hj=>by rw [show (⟨sb,so,none⟩:Addr).add j = ⟨sb,so + j,none⟩ by simp [Addr.add]]; exact hsrc j v hj)
 have hst:=run_storeCells_cells (P:=P) g o cs 0 W (fun j hj=>by rw [R.cell,Array.getElem?_eq_getElem (by omega)]; rfl) (fun j hj=>frozen_of_row W g _ cur t R) h1
 cases hq:P.info? elem with
 | none=>simp [hq] at hs
 | some i =>
  have hi:i.size = k:=by simpa [hq] using hs
  simp [Builtin.copy_,run_underlying hu,Builtin.lenOf,Builtin.firstCells,sizeOf,typeInfo,hq,hi,← hn,hl,hst]
theorem zol {P:Program} (k:Nat) (w:World) (dT sT ty elem:TypeId) (d a:Option Addr) (dLen dCap sLen sCap:Nat) (hu:P.underlying dT = some (.slice elem)) (hs:(P.info? elem).map (·.size) = some k) (hn:Nat.min sLen dLen = 0) :
  (Builtin.copy_ #[dT,sT] ty #[.slice d dLen dCap,.slice a sLen sCap]).run P w = .ok (goInt 0) w:=by
 cases hq:P.info? elem with
 | none=>simp [hq] at hs
 | some i =>
  have hl:∀ (x:Addr),(loadCells x 0).run P w = .ok #[] w:=fun x=>by simpa using run_loadCells_list (P:=P) w x [] (by simp)
  cases d <;> cases a <;> simp [Builtin.copy_,run_underlying hu,Builtin.lenOf,Builtin.firstCells,sizeOf,typeInfo,hq,hn,storeCells,hl]
theorem zrn (cs vs:List Value) (q:Nat) (cur:Array Value) (hq:q≤cs.length) (hs:cs.length + vs.length≤cur.size) (ht:cur.toList.take q = cs.take q) :
  (putAt (cs.drop q) (q + vs.length) (putAt vs q cur)).toList.take (cs.length + vs.length) = cs.take q ++ (vs ++ cs.drop q):=by
 have hd:(cs.drop q).length = cs.length - q:=List.length_drop
 have htl:(cs.take q).length = q:=by rw [List.length_take]; omega
 apply List.ext_getElem?
 intro j
 rw [List.getElem?_take]
 by_cases hj:j < cs.length + vs.length
 ·rw [if_pos hj,Array.getElem?_toList,zbx,zbx,zax,hd]
  by_cases c1:j < q
  ·rw [if_neg (by omega),if_neg (by omega),List.getElem?_append_left (by omega),← ht,List.getElem?_take,if_pos c1,Array.getElem?_toList]
  ·by_cases c2:j < q + vs.length
   ·rw [if_neg (by omega),if_pos ⟨by omega,by omega,by omega⟩,List.getElem?_append_right (by omega),htl,List.getElem?_append_left (by omega)]
   ·rw [if_pos ⟨by omega,by omega,by omega⟩,List.getElem?_append_right (by omega),htl,List.getElem?_append_right (by omega)]
    congr 1
    omega
 ·rw [if_neg hj,List.getElem?_eq_none]
  rw [List.length_append,List.length_append,hd,htl]
  omega
theorem zhh:∃ i,Tryz.prog.info? 61 = some i∧i.zero = some (.agg (ac ac0).toArray)∧i.size = 4∧i.bytes = 32:=by
 have h:(Tryz.prog.info? 61).map (fun i=>(i.zero,i.size,i.bytes)) = some (some (.agg (ac ac0).toArray),4,32):=by kernel_rfl
 obtain ⟨i,hi,h⟩:=Option.map_eq_some_iff.1 h
 simp only [Prod.mk.injEq] at h
 exact ⟨i,hi,h.1,h.2.1,h.2.2⟩
theorem zbd (l:List Ac):(l.flatMap ac).length = l.length * 4:=by
 induction l with
 | nil=>rfl
 | cons x r ih=>rw [List.flatMap_cons,List.length_append,ih,List.length_cons]; show 4 + _ = _; omega
theorem zmw:∀ (l:List Ac) (p:Nat),(l.flatMap ac).take (p * 4) = (l.take p).flatMap ac
 | [],p=>by simp
 | x :: r,0=>by simp
 | x :: r,p + 1=>by
  rw [List.flatMap_cons,List.take_succ_cons,List.flatMap_cons,← zmw r p,show (p + 1) * 4 = (ac x).length + p * 4 by show _ = 4 + _; omega,List.take_length_add_append]
theorem zmx:∀ (l:List Ac) (p:Nat),(l.flatMap ac).drop (p * 4) = (l.drop p).flatMap ac
 | [],p=>by simp
 | x :: r,0=>by simp
 | x :: r,p + 1=>by
  rw [List.flatMap_cons,List.drop_succ_cons,← zmx r p,show (p + 1) * 4 = (ac x).length + p * 4 by show _ = 4 + _; omega,List.drop_length_add_append]
theorem zlg (l:List Ac):∀ v ∈ l.flatMap ac,v.oneCell' = true:=by
 intro v hv
 obtain ⟨x,_,hx⟩:=List.mem_flatMap.1 hv
 simp [ac] at hx
 rcases hx with rfl | rfl | rfl | rfl <;> rfl
set_option maxHeartbeats 4000000 in
set_option maxRecDepth 100000 in
theorem zje (B g n p vb:Nat) (xs:List Ac) (x:Ac) (w:World) (RG:Row w g (xs.flatMap ac).toArray 61) (RV:Row w vb (ac x).toArray 61) (hne:vb ≠ g) (hB:B≤w.heap.size) (hxs:xs.length = n) (hp:p < n) (hn:n≤100000) :
  Calls Tryz.prog 96 #[.slice (some ⟨g,0,none⟩) n n,.int .i64 (p:Int),.slice (some ⟨vb,0,none⟩) 1 1] w fun e w'=>∃ v',e = .returned v'∧w'.ownsRow B 61 4 v' (n + 1) ((xs.take p ++ x :: xs.drop p).flatMap ac)∧Below B w w':=by
 obtain ⟨i0,hi0,hz0,hs0,hb0⟩:=zhh
 obtain ⟨cs,hcs⟩:∃ cs,cs = xs.flatMap ac:=⟨_,rfl⟩
 obtain ⟨vs,hvs⟩:∃ vs,vs = ac x:=⟨_,rfl⟩
 have hfin:(xs.take p ++ x :: xs.drop p).flatMap ac = cs.take (p * 4) ++ (vs ++ cs.drop (p * 4)):=by
  rw [List.flatMap_append,List.flatMap_cons,hcs,hvs,zmw,zmx]
 have hcl:cs.length = n * 4:=by rw [hcs,zbd,hxs]
 have hvl:vs.length = 4:=by rw [hvs]; rfl
 have h1c:∀ v ∈ cs,v.oneCell' = true:=by rw [hcs]; exact zlg xs
 have h1v:∀ v ∈ vs,v.oneCell' = true:=by rw [hvs]; intro v hv; simp [ac] at hv; rcases hv with rfl | rfl | rfl | rfl <;> rfl
 rw [hfin]
 rw [← hcs] at RG
 rw [← hvs] at RV
 clear hfin hcs hvs hxs
 have hcell:∀ (j:Nat) (v:Value),cs[j]? = some v→w.cell? ⟨g,0 + j,none⟩ = some v:=fun j v hj=>by
  rw [Nat.zero_add,RG.cell j,← Array.getElem?_toList]
  simpa using hj
 have hold:(Builtin.firstCells i0.size p (.slice (some ⟨g,0,none⟩) p n)).run Tryz.prog w.drew = .ok (cs.take (p * 4)).toArray w.drew:=by
  rw [hs0]
  exact run_firstCells_some w.drew 4 p ⟨g,0,none⟩ p n (cs.take (p * 4)) (by rw [List.length_take]; omega) (fun j v hj=>by
   rw [show (⟨g,0,none⟩:Addr).add j = ⟨g,0 + j,none⟩ from zbo g 0 j]
   refine hcell j v ?_
   rw [List.getElem?_take] at hj
   split at hj
   ·exact hj
   ·cases hj)
 obtain ⟨G,hG⟩:∃ G,G = grownCap w (n + 1) n 61:=⟨_,rfl⟩
 have hG1:n + 1≤G:=by rw [hG]; exact grownCap_ge w _ _ _
 have hG2:G≤maxLen:=by rw [hG]; exact grownCap_le_maxLen w _ _ _ (by unfold maxLen; omega)
 obtain ⟨ROW,hROW⟩:∃ ROW:Array Value,ROW = (cs.take (p * 4)).toArray ++ Builtin.zeroCells (Value.agg (ac ac0).toArray).cells (n + 1 - p) ++ Builtin.zeroCells (Value.agg (ac ac0).toArray).cells (G - (n + 1)):=⟨_,rfl⟩
 have hzs:∀ k,(Builtin.zeroCells (Value.agg (ac ac0).toArray).cells k).size = k * 4:=fun k=>by
  simp [Builtin.zeroCells,Value.cells,ac]
 have hRs:ROW.size = G * 4:=by
  rw [hROW,Array.size_append,Array.size_append,hzs,hzs,List.size_toArray,List.length_take]
  omega
 have hRt:ROW.toList.take (p * 4) = cs.take (p * 4):=by
  rw [hROW,Array.toList_append,Array.toList_append,List.append_assoc]
  have h1:(cs.take (p * 4)).length = p * 4:=by rw [List.length_take]; omega
  show List.take (p * 4) (cs.take (p * 4) ++ _) = _
  rw [List.take_append_of_le_length (by omega),List.take_of_length_le (by omega)]
 have hrz:∀ ty,(Builtin.append_ #[34,3] ty #[.slice (some ⟨g,0,none⟩) p n,.int .i64 ((n:Int) + 1 - (p:Int))]).run Tryz.prog w = .ok (.slice (some ⟨w.heap.size,0,none⟩) (n + 1) G) (w.drew.alloc (.cells ROW 61)):=fun ty=>by
  have h:=Lib.run_append_grow_zeros (P:=Tryz.prog) w 34 3 ty 61 i0 (.agg (ac ac0).toArray) .i64 .i64 Tryz.underlying34 Tryz.underlying3 hi0 hz0 (some ⟨g,0,none⟩) p n (cs.take (p * 4)) hold (n + 1 - p) (by omega) (by omega) (by omega) (by omega) (by rw [hb0]; omega) (by rw [hb0]; exact growslice_fits (by omega) (by omega))
  rw [show p + (n + 1 - p) = n + 1 by omega,← hG,← hROW] at h
  rw [show (n:Int) + 1 - (p:Int) = ((n + 1 - p:Nat):Int) by omega]
  exact h
 have R1:Row (w.drew.alloc (.cells ROW 61)) w.heap.size ROW 61:=Row.new w.drew ROW 61
 have B1:Below w.heap.size w (w.drew.alloc (.cells ROW 61)):=zaa (zat (Below.refl _ w)) _
 have hlg:=RG.lt
 have hlv:=RV.lt
 have HRZ:=hdq hrz
 obtain ⟨gn,hgn⟩:∃ g,g = w.heap.size:=⟨_,rfl⟩
 rw [← hgn] at R1 HRZ B1 hB hlg hlv
 have HGN:=hdq hgn
 clear hgn
 generalize hW1:w.drew.alloc (.cells ROW 61) = w1 at *
 have RG1:Row w1 g cs.toArray 61:=(B1.block g hlg).trans RG
 have RV1:Row w1 vb vs.toArray 61:=(B1.block vb hlv).trans RV
 have hcpA:∀ ty,(Builtin.copy_ #[34,33] ty #[.slice (some ⟨gn,p * 4,none⟩) (n + 1 - p) (G - p),.slice (some ⟨vb,0,none⟩) 1 1]).run Tryz.prog w1 = .ok (goInt 1) (w1.setCells gn (p * 4) vs):=fun ty=>by
  have h:=zgc 4 R1 34 33 ty 61 (p * 4) (n + 1 - p) (G - p) vb 0 1 1 vs Tryz.underlying34 (by rw [hi0]; simp [hs0]) (by rw [hvl,show Nat.min 1 (n + 1 - p) = 1 by show min 1 (n + 1 - p) = 1; omega]) (fun j v hj=>by rw [Nat.zero_add,RV1.cell j]; simpa using hj) (by rw [hRs,hvl]; omega) h1v
  rw [show Nat.min 1 (n + 1 - p) = 1 by show min 1 (n + 1 - p) = 1; omega] at h
  exact h
 have HCA:=hdq hcpA
 have R2:=Row.setCells vs (p * 4) R1
 have S2:=zag gn vs (p * 4) w1
 have RG2:Row (w1.setCells gn (p * 4) vs) g cs.toArray 61:=RG1.stored S2 (by omega)
 have B2:Below gn w (w1.setCells gn (p * 4) vs):=S2.below B1 (Nat.le_refl _)
 generalize hW2:w1.setCells gn (p * 4) vs = w2 at *
 have HW2:=hdq hW2
 clear hW1 hW2
 have HR2:=hdq R2
 have HG2:=hdq RG2
 have HB2:=hdq B2
 have HX:=hdq (And.intro hp (And.intro hn (And.intro hcl (And.intro hvl (And.intro hG1 (And.intro hG2 (And.intro hRs hRt)))))))
 have HI:=hdq (And.intro hi0 hs0)
 have H1C:=hdq h1c
 have HGL:=hdq hlg
 have h2:(p:Int) < (n:Int):=by omega
 have h1:(p:Int)≤(n:Int):=by omega
 have h3:¬ ((p:Int) = (n:Int)):=by omega
 have h3b:((p:Int) == (n:Int)) = false:=beq_eq_false_iff_ne.2 h3
 have h4:(n:Int) < (n:Int) + 1:=by omega
 have hB0:(0:Int)≤(p:Int):=by omega
 have e1:IntKind.i64.wrap ((n:Int) + 1) = (n:Int) + 1:=by rw [IntKind.wrap_i64]; omega
 have e2:IntKind.i64.wrap ((p:Int) + 1) = (p:Int) + 1:=by rw [IntKind.wrap_i64]; omega
 have e3:IntKind.i64.wrap ((n:Int) + 1 - (p:Int)) = (n:Int) + 1 - (p:Int):=by rw [IntKind.wrap_i64]; omega
 have n1:¬ (G = p):=by omega
 have n2:¬ (G = p + 1):=by omega
 have n3:p≤n:=by omega
 have n9:¬ (n = p):=by omega
 have n6:p + 1≤n + 1:=by omega
 have n7:p≤n + 1:=by omega
 have m1:(p:Int) + 1≤(n:Int) + 1:=by omega
 have m2:(p:Int)≤(n:Int) + 1:=by omega
 have m3:(0:Int)≤(p:Int) + 1:=by omega
 have t1:((p:Int) + 1).toNat = p + 1:=by omega
 clear RG RV hp hn hcl hvl hrz hcpA hold hcell hi0 hz0 hs0 hb0 hG1 hG2 hRs hRt R1 B1 RG1 RV1 R2 S2 RG2 B2 hlg hlv hG hROW h1c h1v hzs
 go_enter Tryz.func96,Tryz.ntmps96
 go_wp2_with (first | (at_builtin; refine zbn rfl (zao _ _ _ _ rfl rfl rfl (HRZ.out _)) ?_))
 rw [HCA.out]
 go_wp2_with fail
 refine zch (n:=9) 8 3 (by kernel_rfl) (fun c' w'=>Stored w2 gn w'∧Row w' g cs.toArray 61∧Row w' gn (if c' then putAt (cs.drop (p * 4)) (p * 4 + 4) (putAt vs (p * 4) ROW) else putAt vs (p * 4) ROW) 61) (fun i=>(#[.slice (some ⟨gn,0,none⟩) (n + 1) G,.int .i64 (p:Int),.int .i64 1,.int .i64 ((p:Int) + 1),.slice (some ⟨gn,(p + 1) * 4,none⟩) (n - p) (G - (p + 1)),.slice (some ⟨g,0,none⟩) n n,.int .i64 (p:Int),.slice (some ⟨g,p * 4,none⟩) (n - p) (n - p),.int .i64 ((n - p:Nat):Int)]:Array Value).getD i undef) (by kernel_rfl) (by kernel_rfl) ⟨zbh (Stored.refl w2 gn),HG2.out,HR2.out⟩ rfl ?_
 intro F hF
 simp only [fill,if_true,dstAt] at hF
 simp [Act.put] at hF
 subst hF
 refine ⟨?_,?_⟩
 ·intro i o ho c wx hcm S
  rcases i with _ | _ | _ | _ | _ | _ | _ | _ | _ | i
  all_goals (first | (simp at ho; done) | (obtain rfl:=Option.some.inj ho))
  ·exact zas rfl S (by go_simp)
  ·exact zas rfl S (by go_simp)
  ·exact zas rfl S (by go_simp)
  ·exact zas rfl S (by go_simp)
  ·exact zas rfl S (by go_simp)
  ·exact zas rfl S (by go_simp)
  ·exact zas rfl S (by go_simp)
  ·exact zas rfl S (by go_simp)
  ·obtain rfl:c = false:=hcm (by kernel_rfl)
   have hX:=HX.out
   have hI:=HI.out
   have hl:(cs.drop (p * 4)).length = (n - p) * 4:=by rw [List.length_drop,hX.2.2.1]; omega
   have hr:=fun ty=>zgc (P:=Tryz.prog) 4 S.2.2 34 34 ty 61 ((p + 1) * 4) (n - p) (G - (p + 1)) g (p * 4) (n - p) (n - p) (cs.drop (p * 4)) Tryz.underlying34 (by rw [hI.1]; simp [hI.2]) (by rw [hl]; show _ = min (n - p) (n - p) * 4; rw [show min (n - p) (n - p) = n - p by omega]) (fun j v hj=>by
    have S2:=S.2.1
    rw [S2.cell (p * 4 + j),← hj]
    simp) (by rw [hl]; have:=hX; show (p + 1) * 4 + (n - p) * 4≤(putAt vs (p * 4) ROW).size; rw [zax]; omega) (fun v hv=>H1C.out v (List.mem_of_mem_drop hv))
   rw [show Nat.min (n - p) (n - p) = n - p by show min (n - p) (n - p) = n - p; omega] at hr
   rw [show p * 4 + 4 = (p + 1) * 4 by omega]
   exact zka rfl ⟨S.1.trans (zag gn _ _ _),S.2.1.stored (zag gn _ _ _) (by have:=HGL.out; omega),Row.setCells _ _ S.2.2⟩ (zcs _ _ _ _ rfl rfl rfl (hr _))
 ·intro wy S
  simp only [if_true] at S
  have HS:=hdq S
  clear S
  go_wp2_with fail
  go_ret
  have hX:=HX.out
  refine ⟨_,rfl,⟨by rw [List.length_append,List.length_append,List.length_take,List.length_drop]; omega,.inr ⟨gn,G,_,rfl,hB,HS.out.2.2,by omega,hX.2.2.2.2.2.1,by rw [zax,zax]; omega,?_⟩⟩,(HS.out.1.below HB2.out (Nat.le_refl _)).mono (by omega)⟩
  have h:=zrn cs vs (p * 4) ROW (by omega) (by omega) hX.2.2.2.2.2.2.2
  rw [hX.2.2.1,hX.2.2.2.1] at h
  rw [show (n + 1) * 4 = n * 4 + 4 by omega]
  exact h
def putC (l:List Ac) (x:Ac):List Ac:=l.filter (fun y=>decide (y.code < x.code)) ++ x :: l.filter (fun y=>decide (x.code < y.code))
def dropC (l:List Ac) (n:Nat):List Ac:=l.filter fun y=>y.code != n
def kidsC (l:List Ac) (n:Nat):List Nat:=(l.filter fun y=>y.par == n).map (·.code)
def moveC (l:List Ac) (f t:Nat):List Ac:=l.map fun y=>if y.par = f then { y with par:=t } else y
theorem zll {l:List Ac} {i:Nat} {y:Ac} (h:y ∈ l.take i):∃ t,t < i∧t < l.length∧l.getD t ac0 = y:=by
 obtain ⟨t,ht,rfl⟩:=List.getElem_of_mem h
 rw [List.length_take] at ht
 exact ⟨t,by omega,by omega,by rw [List.getElem_take,List.getD_eq_getElem?_getD,List.getElem?_eq_getElem (by omega)]; rfl⟩
theorem zms {l:List Ac} {i:Nat} {y:Ac} (h:y ∈ l.drop i):∃ t,i≤t∧t < l.length∧l.getD t ac0 = y:=by
 obtain ⟨t,ht,rfl⟩:=List.getElem_of_mem h
 rw [List.length_drop] at ht
 exact ⟨i + t,by omega,by omega,by rw [List.getElem_drop,List.getD_eq_getElem?_getD,List.getElem?_eq_getElem (by omega)]; rfl⟩
theorem zrf (l:List Ac) (n i:Nat) (hp:PosOf l n i):l.filter (fun y=>decide (y.code < n)) = l.take i:=by
 have h1:(l.take i).filter (fun y=>decide (y.code < n)) = l.take i:=List.filter_eq_self.2 fun y hy=>by
  obtain ⟨t,h1,h2,rfl⟩:=zll hy
  exact decide_eq_true (hp.2.1 t h1)
 have h2:(l.drop i).filter (fun y=>decide (y.code < n)) = []:=List.filter_eq_nil_iff.2 fun y hy=>by
  obtain ⟨t,h1,h2,rfl⟩:=zms hy
  have:=hp.2.2 t h1 h2
  exact fun h=>by have h:=of_decide_eq_true h; omega
 rw [← List.take_append_drop i l,List.filter_append,h1,h2,List.append_nil,List.take_append_drop]
theorem zrs (l:List Ac) (n i j:Nat) (hp:PosOf l n i) (hij:i≤j) (hj:∀ t,i≤t→t < j→t < l.length→(l.getD t ac0).code≤n) (hk:∀ t,j≤t→t < l.length→n < (l.getD t ac0).code):l.filter (fun y=>decide (n < y.code)) = l.drop j:=by
 have h1:(l.take j).filter (fun y=>decide (n < y.code)) = []:=List.filter_eq_nil_iff.2 fun y hy=>by
  obtain ⟨t,h1,h2,rfl⟩:=zll hy
  by_cases c:t < i
  ·have:=hp.2.1 t c
   exact fun h=>by have h:=of_decide_eq_true h; omega
  ·have:=hj t (by omega) h1 h2
   exact fun h=>by have h:=of_decide_eq_true h; omega
 have h2:(l.drop j).filter (fun y=>decide (n < y.code)) = l.drop j:=List.filter_eq_self.2 fun y hy=>by
  obtain ⟨t,h1,h2,rfl⟩:=zms hy
  exact decide_eq_true (hk t h1 h2)
 rw [← List.take_append_drop j l,List.filter_append,h1,h2,List.nil_append,List.take_append_drop]
theorem zpv (l:List Ac) (x:Ac) (i:Nat) (hr:AcRise l) (hp:PosOf l x.code i) (hno:¬ (i < l.length∧(l.getD i ac0).code = x.code)):putC l x = l.take i ++ x :: l.drop i:=by
 unfold putC
 rw [zrf l _ i hp,zrs l _ i i hp (Nat.le_refl _) (fun t a b=>by omega) fun t h1 h2=>?_]
 by_cases c:t = i
 ·subst c
  have:=hp.2.2 t h1 h2
  by_cases e:(l.getD t ac0).code = x.code
  ·exact absurd ⟨h2,e⟩ hno
  ·omega
 ·have a:=hp.2.2 i (Nat.le_refl _) (by omega)
  have b:=hr i t (by omega) h2
  omega
theorem zls (l:List Ac) (x:Ac) (i:Nat) (hr:AcRise l) (hp:PosOf l x.code i) (hi:i < l.length) (he:(l.getD i ac0).code = x.code):putC l x = l.set i x:=by
 unfold putC
 rw [zrf l _ i hp,zrs l _ i (i + 1) hp (by omega) (fun t a b c=>by rw [show t = i by omega]; omega) fun t h1 h2=>by have:=hr i t (by omega) h2; omega]
 rw [List.set_eq_take_append_cons_drop,if_pos hi]
theorem zdc {l:List Ac} (h:l.Pairwise fun x y=>x.code < y.code):AcRise l:=by
 intro i j hij hj
 rw [List.getD_eq_getElem?_getD,List.getD_eq_getElem?_getD,List.getElem?_eq_getElem hj,List.getElem?_eq_getElem (by omega)]
 exact List.pairwise_iff_getElem.1 h i j (by omega) hj hij
theorem zfo {l:List Ac} (h:AcRise l):l.Pairwise fun x y=>x.code < y.code:=by
 rw [List.pairwise_iff_getElem]
 intro i j hi hj hij
 have:=h i j hij hj
 rwa [List.getD_eq_getElem?_getD,List.getD_eq_getElem?_getD,List.getElem?_eq_getElem hj,List.getElem?_eq_getElem (by omega)] at this
theorem zin {l:List Ac} (x:Ac) (h:AcRise l):AcRise (putC l x):=by
 refine zdc (List.pairwise_append.2 ⟨(zfo h).filter _,List.pairwise_cons.2 ⟨fun y hy=>?_,(zfo h).filter _⟩,fun a ha b hb=>?_⟩)
 ·simpa using (List.mem_filter.1 hy).2
 ·have a1:a.code < x.code:=by simpa using (List.mem_filter.1 ha).2
  rcases List.mem_cons.1 hb with rfl | hb
  ·exact a1
  ·have b1:x.code < b.code:=by simpa using (List.mem_filter.1 hb).2
   omega
theorem zoi {l:List Ac} (n:Nat) (h:AcRise l):AcRise (dropC l n):=zdc ((zfo h).filter _)
theorem zfu (l:List Ac) (f t:Nat):(moveC l f t).length = l.length:=by simp [moveC]
theorem zdh (l:List Ac) (n:Nat):(dropC l n).length≤l.length:=List.length_filter_le _ _
theorem zdm (l:List Ac) (x:Ac):(putC l x).length≤l.length + 1:=by
 unfold putC
 rw [List.length_append,List.length_cons]
 have h:(l.filter fun y=>decide (y.code < x.code)).length + (l.filter fun y=>decide (x.code < y.code)).length≤l.length:=by
  induction l with
  | nil=>simp
  | cons y r ih =>
   by_cases c1:y.code < x.code
   ·rw [List.filter_cons_of_pos (by simpa using c1),List.filter_cons_of_neg (by simp; omega),List.length_cons,List.length_cons]
    omega
   ·rw [List.filter_cons_of_neg (by simpa using c1)]
    have:=List.length_filter_le (fun y=>decide (x.code < y.code)) (y :: r)
    by_cases c2:x.code < y.code
    ·rw [List.filter_cons_of_pos (by simpa using c2),List.length_cons,List.length_cons]
     omega
    ·rw [List.filter_cons_of_neg (by simpa using c2),List.length_cons]
     omega
 omega
set_option maxHeartbeats 4000000 in
set_option maxRecDepth 100000 in
theorem zkr (B g n vb:Nat) (xs:List Ac) (x:Ac) (w:World) (RG:Row w g (xs.flatMap ac).toArray 61) (RV:Row w vb (ac x).toArray 61) (hB:B≤w.heap.size) (hg:B≤g) (hxs:xs.length = n) (hn:n≤100000) :
  Calls Tryz.prog 96 #[.slice (some ⟨g,0,none⟩) n n,.int .i64 (n:Int),.slice (some ⟨vb,0,none⟩) 1 1] w fun e w'=>∃ v',e = .returned v'∧w'.ownsRow B 61 4 v' (n + 1) ((xs ++ [x]).flatMap ac)∧Below B w w':=by
 obtain ⟨i,hi,h1,h2,h3⟩:=zhh
 have hadd:=zbo vb 0
 have hown:w.ownsRow B 61 4 (.slice (some ⟨g,0,none⟩) n n) n (xs.flatMap ac):=⟨by rw [zbd,hxs],.inr ⟨g,n,_,rfl,hg,RG,Nat.le_refl _,by unfold maxLen; omega,by rw [List.size_toArray,zbd,hxs],List.take_of_length_le (by rw [zbd,hxs]; exact Nat.le_refl _)⟩⟩
 obtain ⟨v',w',hr,k2,k3,k4,k5⟩:=run_append_own_at (P:=Tryz.prog) w B 34 34 61 i (.agg (ac ac0).toArray) 4 32 Tryz.underlying34 hi h1 h2 h3 rfl (by omega) (.slice (some ⟨g,0,none⟩) n n) n (xs.flatMap ac) hown ⟨vb,0,none⟩ 1 1 (ac x) rfl (fun j u hj=>by rw [hadd,Nat.zero_add,RV.cell j]; simpa using hj) (fun u hu=>by simp [ac] at hu; rcases hu with rfl | rfl | rfl | rfl <;> rfl) (by unfold maxLen; omega) (by omega) hB
 have HK:=hdq k2
 have HB:=hdq ((Below.refl B w).grown k3 hB (fun k hk=>(zbc hown hk).1))
 have hr2:∀ ty,(Builtin.append_ #[34,33] ty #[.slice (some ⟨g,0,none⟩) n n,.slice (some ⟨vb,0,none⟩) 1 1]).run Tryz.prog w = .ok v' w':=fun ty=>by
  rw [zgu Tryz.underlying34 Tryz.underlying33]
  exact hr
 have HR2:=hdq hr2
 have e1:(0:Int)≤(n:Int):=by omega
 clear hr k2 k3 k4 k5 hn hown RV RG hi h1 h2 h3 hadd hB hr2 hxs hg
 go_enter Tryz.func96,Tryz.ntmps96
 go_wp2_with (first | (at_builtin; refine zbn rfl (zao _ _ _ _ rfl rfl rfl (HR2.out _)) ?_))
 all_goals go_ret
 all_goals exact ⟨_,rfl,by rw [show (xs ++ [x]).flatMap ac = xs.flatMap ac ++ ac x by simp]; exact HK.out,HB.out⟩
theorem zks (B g n p vb:Nat) (xs:List Ac) (x:Ac) (w:World) (RG:Row w g (xs.flatMap ac).toArray 61) (RV:Row w vb (ac x).toArray 61) (hne:vb ≠ g) (hB:B≤w.heap.size) (hg:B≤g) (hxs:xs.length = n) (hp:p≤n) (hn:n≤100000) :
  Calls Tryz.prog 96 #[.slice (some ⟨g,0,none⟩) n n,.int .i64 (p:Int),.slice (some ⟨vb,0,none⟩) 1 1] w fun e w'=>∃ v',e = .returned v'∧w'.ownsRow B 61 4 v' (n + 1) ((xs.take p ++ x :: xs.drop p).flatMap ac)∧Below B w w':=by
 by_cases h:p < n
 ·exact zje B g n p vb xs x w RG RV hne hB hxs h hn
 ·obtain rfl:p = n:=by omega
  rw [← hxs,List.take_length,List.drop_length,hxs]
  exact zkr B g p vb xs x w RG RV hB hg hxs hn
theorem zii {P:Program} {ρ:Operand→Value} {o:Oper} (t:TypeId) (l c:Operand) (ho:o.op = .makeSlice t l c) {vl vc v':Value} (hl:ρ l = vl) (hc:ρ c = vc) {w w':World} (hr:(Instr.makeSlice t vl vc).run P w = .ok v' w'):(execOp ρ o).run P w = .ok (.value v') w':=by
 unfold execOp
 simp only [ho,Sem.run_bind,Sem.run_pure,Result.andThen_ok,hl,hc,hr]
theorem zga {P:Program} {ops:Array Oper} {rest:List Oper} {o:Oper} {a:Act} {Q:Exit→Act→World→Prop} {W:World} (hgd:o.guard = none) (T:TypeId) (x y:Operand) (ho:o.op = .store T x y) (g k:Nat) (cells:List Value) (hx:a.eval x = .pointer (some ⟨g,k,none⟩)) (hy:a.eval y = .agg cells.toArray)
  {t:TypeId} {old:Array Value} (R:Row W g old t) (hi:(P.info? T).map (·.size) = some cells.length) (hold:k + cells.length≤old.size) (h1:∀ v ∈ cells,v.oneCell' = true) (hN:o.dst = none)
  (h:wpList P ops Q rest a (W.setCells g k cells)):wpList P ops Q (o :: rest) a W:=by
 refine wpList_plain hgd fun K hK=>?_
 have hst:=run_storeCells_cells (P:=P) g k cells 0 W (fun j hj=>by rw [R.cell,Array.getElem?_eq_getElem (by omega)]; rfl) (fun j hj=>frozen_of_row W g _ old t R) h1
 have hsv:(storeVar T ⟨g,k,none⟩ (.agg cells.toArray)).run P W = .ok () (W.setCells g k cells):=by
  cases hq:P.info? T with
  | none=>simp [hq] at hi
  | some i =>
   have hs:i.size = cells.length:=by simpa [hq] using hi
   simp [storeVar,sizeOf,typeInfo,hq,Value.cells,hs]
   simpa using hst
 unfold Oper.wp execOp
 simp only [ho,hx,hy,Instr.storeAt,Instr.sureAddr,Sem.run_bind,Sem.run_pure,Result.andThen_ok,hsv]
 have hK2:K (a.put o.dst undef) (W.setCells g k cells):=by rw [hN]; exact hK _ _ h
 exact hK2
theorem zht {l:List Ac} {i:Nat} (hi:i < l.length):∀ j v,(ac (l.getD i ac0))[j]? = some v→(l.flatMap ac)[i * 4 + j]? = some v:=by
 induction l generalizing i with
 | nil=>simp at hi
 | cons x r ih =>
  intro j v hv
  have hj:j < 4:=by
   by_cases c:j < 4
   ·exact c
   ·rw [List.getElem?_eq_none (by show 4≤j; omega)] at hv; cases hv
  rw [List.flatMap_cons]
  rcases i with _ | i
  ·rw [Nat.zero_mul,Nat.zero_add,List.getElem?_append_left (by show j < 4; exact hj)]
   simpa using hv
  ·rw [List.getElem?_append_right (by show 4≤_; omega),show (i + 1) * 4 + j - (ac x).length = i * 4 + j by show _ - 4 = _; omega]
   exact ih (by simpa using hi) j v (by simpa using hv)
theorem zmq {w:World} {b off:Nat} {l:List Ac} (h:∀ i,i < l.length→w.rangeAt b (off + i * 4) (ac (l.getD i ac0))):∀ j v,(l.flatMap ac)[j]? = some v→w.cell? ⟨b,off + j,none⟩ = some v:=by
 intro j v hv
 have hj:j < l.length * 4:=by
  by_cases c:j < l.length * 4
  ·exact c
  ·rw [List.getElem?_eq_none (by rw [zbd]; omega)] at hv; cases hv
 have hq:j / 4 < l.length:=by omega
 have e:j = j / 4 * 4 + j % 4:=by omega
 have hl:j % 4 < (ac (l.getD (j / 4) ac0)).length:=by show _ < 4; omega
 have h2:=h (j / 4) hq (j % 4) ((ac (l.getD (j / 4) ac0))[j % 4]) (List.getElem?_eq_getElem hl)
 have h3:=zht hq (j % 4) _ (List.getElem?_eq_getElem hl)
 rw [← e] at h3
 rw [hv] at h3
 rw [Option.some.inj h3,show off + j = off + j / 4 * 4 + j % 4 by omega]
 exact h2
theorem zuh (l:List Ac) (i:Nat) (x:Ac) (hi:i < l.length):putAt (ac x) (i * 4) (l.flatMap ac).toArray = ((l.set i x).flatMap ac).toArray:=by
 apply Array.ext_getElem?
 intro j
 rw [zbx]
 have h4:(ac x).length = 4:=rfl
 rw [h4,List.size_toArray,zbd]
 rw [List.getElem?_toArray,List.getElem?_toArray]
 by_cases c:i * 4≤j∧j < i * 4 + 4∧j < l.length * 4
 ·rw [if_pos c]
  have h:=zht (l:=l.set i x) (i:=i) (by simpa using hi) (j - i * 4)
  rw [show (l.set i x).getD i ac0 = x by rw [List.getD_eq_getElem?_getD,List.getElem?_set_self hi]; rfl] at h
  have hl:j - i * 4 < (ac x).length:=by rw [h4]; omega
  rw [List.getElem?_eq_getElem hl]
  have h2:=h _ (List.getElem?_eq_getElem hl)
  rw [show i * 4 + (j - i * 4) = j by omega] at h2
  exact h2.symm
 ·rw [if_neg c]
  by_cases d:j < l.length * 4
  ·have hq:j / 4 < l.length:=by omega
   have hne:j / 4 ≠ i:=by omega
   have hl:j % 4 < (ac (l.getD (j / 4) ac0)).length:=by show _ < 4; omega
   have h1:=zht hq (j % 4) _ (List.getElem?_eq_getElem hl)
   have hq2:j / 4 < (l.set i x).length:=by simpa using hq
   have e:(l.set i x).getD (j / 4) ac0 = l.getD (j / 4) ac0:=by
    rw [List.getD_eq_getElem?_getD,List.getD_eq_getElem?_getD,List.getElem?_set_ne (fun e=>hne e.symm)]
   have h2:=zht hq2 (j % 4) ((ac (l.getD (j / 4) ac0))[j % 4]) (by rw [e]; exact List.getElem?_eq_getElem hl)
   rw [show j / 4 * 4 + j % 4 = j by omega] at h1 h2
   rw [h1,h2]
  ·rw [List.getElem?_eq_none (by rw [zbd]; omega),List.getElem?_eq_none (by rw [zbd,List.length_set]; omega)]
set_option maxHeartbeats 4000000 in
set_option maxRecDepth 100000 in
theorem zgy (a:Option Addr) (cap:Nat) (l:List Ac) (x:Ac) (w:World) (hE:ElsAt ac 4 ac0 w a l) (hl:l.length≤100000) (hr:AcRise l) :
  Calls Tryz.prog 57 #[.slice a l.length cap,.agg (ac x).toArray] w fun e w'=>∃ v',e = .returned v'∧w'.ownsRow w.heap.size 61 4 v' (putC l x).length ((putC l x).flatMap ac)∧Below w.heap.size w w':=by
 obtain ⟨i,hp⟩:=zqa l x.code hr
 obtain ⟨pc,hpc⟩:∃ p,p = putC l x:=⟨_,rfl⟩
 rw [← hpc]
 have HPC:=hdq hpc
 clear hpc
 have B1:=zaa (Below.refl _ w) (.cells (ac x).toArray 61)
 have R1:=Row.new w (ac x).toArray 61
 have c0:(w.alloc (.cells (ac x).toArray 61)).cell? ⟨w.heap.size,0,none⟩ = some (.int .u32 (x.code:Int)):=R1.cell 0
 have HF:=hdq (zmp a cap l x.code i _ (hE.below B1) (by omega) hp)
 have HB1:=hdq B1
 have HR1:=hdq R1
 have HE:=hdq (hE.below B1)
 have HL:=hdq hl
 have HR:=hdq hr
 have HP:=hdq hp
 have hz1:w.heap.size < (w.alloc (.cells (ac x).toArray 61)).heap.size:=by simp
 have HZ:=hdq hz1
 clear hE hl hr hp B1 R1 hz1
 go_enter Tryz.func57,Tryz.ntmps57
 go_wp2_with fail
 refine HF.out.mono ?_
 rintro _ w2 ⟨rfl,hb⟩
 have HB2:=hdq (zab HB1.out hb)
 have HR2:=hdq (HR1.out.below hb)
 have HE2:=hdq (HE.out.below hb)
 have hz2:w.heap.size < w2.heap.size:=Nat.lt_of_lt_of_le HZ.out hb.size
 have HZ2:=hdq hz2
 clear hb c0 HF HB1 HR1 HE HZ hz2
 generalize w.alloc (.cells (ac x).toArray 61) = w1 at *
 obtain ⟨i0,hi0,hzz,hs0,hb0⟩:=zhh
 obtain ⟨G,hG⟩:∃ G,G = w2.heap.size:=⟨_,rfl⟩
 obtain ⟨Z,hZ⟩:∃ Z,Z = madeCells (Value.agg (ac ac0).toArray).cells (l.length * 4):=⟨_,rfl⟩
 have hZs:Z.size = l.length * 4:=by rw [hZ,size_madeCells]
 have hmk:=run_makeSlice (P:=Tryz.prog) w2 34 61 i0 (.agg (ac ac0).toArray) Tryz.underlying34 hi0 hzz .i64 .i64 (l.length:Int) (l.length:Int) (by omega) (Int.le_refl _) (by rw [hs0]; have:=HL.out; omega) (by rw [hb0]; have:=HL.out; omega) (by have:=HL.out; omega)
 rw [hs0,Int.toNat_natCast,← hZ,← hG] at hmk
 have HMK:=hdq hmk
 have RG:=Row.new' w2 Z 61 hG
 have B3:Below w.heap.size w2 (w2.alloc (.cells Z 61)):=(zaa (Below.refl _ w2) (.cells Z 61)).mono (by have:=HZ2.out; omega)
 have RX3:=HR2.out.alloc (.cells Z 61)
 have E3:=HE2.out.below (zaa (Below.refl _ w2) (.cells Z 61))
 obtain ⟨w3,hw3⟩:∃ w3,w3 = w2.alloc (.cells Z 61):=⟨_,rfl⟩
 rw [← hw3] at RG B3 RX3 E3
 have HW3:=hdq hw3
 have hcp:∃ w4,(∀ ty,(Builtin.copy_ #[34,34] ty #[.slice (some ⟨G,0,none⟩) l.length l.length,.slice a l.length cap]).run Tryz.prog w3 = .ok (goInt l.length) w4)∧Stored w3 G w4∧Row w4 G (l.flatMap ac).toArray 61:=by
  rcases E3 with h | ⟨b,off,rfl,hcc⟩
  ·refine ⟨w3,fun ty=>?_,Stored.refl _ _,?_⟩
   ·rw [h]
    exact zol 4 w3 _ _ ty 61 _ _ 0 0 0 cap Tryz.underlying34 (by rw [hi0]; simp [hs0]) rfl
   ·rw [h] at hZs ⊢
    have:Z = #[]:=Array.eq_empty_of_size_eq_zero (by simpa using hZs)
    rw [this] at RG
    exact RG
  ·refine ⟨w3.setCells G 0 (l.flatMap ac),fun ty=>?_,zag G _ 0 _,?_⟩
   ·have h:=zgc 4 RG 34 34 ty 61 0 l.length l.length b off l.length cap (l.flatMap ac) Tryz.underlying34 (by rw [hi0]; simp [hs0]) (by rw [zbd]; show _ = min l.length l.length * 4; rw [Nat.min_self]) (zmq hcc) (by rw [zbd,hZs]; omega) (zlg l)
    rw [show Nat.min l.length l.length = l.length from Nat.min_self _] at h
    exact h
   ·have h:=Row.setCells (l.flatMap ac) 0 RG
    have e:putAt (l.flatMap ac) 0 Z = (l.flatMap ac).toArray:=by
     apply Array.ext_getElem?
     intro j
     rw [zbx]
     by_cases c:j < l.length * 4
     ·rw [if_pos ⟨Nat.zero_le _,by rw [zbd]; omega,by omega⟩,Nat.sub_zero]
      simp
     ·rw [if_neg (by rw [zbd]; omega),Array.getElem?_eq_none (by omega),Array.getElem?_eq_none (by rw [List.size_toArray,zbd]; omega)]
    rw [e] at h
    exact h
 obtain ⟨w4,hcp,S4,RG4⟩:=hcp
 have HCP:=hdq hcp
 have hne:w.heap.size ≠ G:=by have:=HZ2.out; omega
 have HR4:=hdq (RX3.stored S4 hne)
 have HG4:=hdq RG4
 have hGB:w.heap.size≤G:=by have:=HZ2.out; omega
 have HB4:=hdq (S4.below (HB2.out.trans B3) hGB)
 have HGB:=hdq (And.intro hGB hne)
 have x0:(0:Int)≤(i:Int):=by omega
 have x1:(i:Int)≤(l.length:Int):=by have:=HP.out.1; omega
 have x2:(0:Int)≤(l.length:Int):=by omega
 by_cases hh:i < l.length∧(l.getD i ac0).code = x.code
 ·have q:(decide (i < l.length) && decide ((l.getD i ac0).code = x.code)) = true:=by rw [← Bool.decide_and]; exact decide_eq_true hh
  rw [q]
  have hput:pc = l.set i x:=by rw [HPC.out]; exact zls l x i HR.out HP.out hh.1 hh.2
  have HPUT:=hdq hput
  have HH:=hdq hh
  have x3:(i:Int) < (l.length:Int):=by have:=hh.1; omega
  clear q hput hcp S4 RG4 RG B3 RX3 E3 hw3 hmk hZs hG hZ hi0 hzz hs0 hb0 hne hGB hh
  go_wp2_with (first | (refine zbn rfl (zii _ _ _ rfl rfl rfl HMK.out) ?_; rw [← HW3.out]))
  rw [HCP.out]
  go_wp2_with (first | (refine zaq rfl rfl 61 _ rfl w.heap.size rfl HR4.out _ Tryz.underlying61 rfl (zcm x) ?_) | (refine zga rfl 61 _ _ rfl G (i * 4) (ac x) rfl rfl HG4.out (by have:=zcm x; simpa using this) (by rw [List.size_toArray,zbd]; have:=HH.out.1; show i * 4 + 4≤_; omega) (fun u hu=>by simp [ac] at hu; rcases hu with rfl | rfl | rfl | rfl <;> rfl) rfl ?_))
  refine bodyPost_ret (v:=.slice (some ⟨G,0,none⟩) l.length l.length) (by simp [results,Tryz.results57,go_sem]) rfl ⟨_,rfl,?_,(zag G _ _ _).below HB4.out HGB.out.1⟩
  rw [HPUT.out]
  have hr:=Row.setCells (ac x) (i * 4) HG4.out
  rw [zuh l i x HH.out.1] at hr
  exact ⟨by rw [zbd],.inr ⟨G,l.length,_,by rw [List.length_set],HGB.out.1,hr,by rw [List.length_set]; exact Nat.le_refl _,by have:=HL.out; unfold maxLen; omega,by rw [List.size_toArray,zbd,List.length_set],List.take_of_length_le (by rw [zbd]; exact Nat.le_refl _)⟩⟩
 ·have q:(decide (i < l.length) && decide ((l.getD i ac0).code = x.code)) = false:=by rw [← Bool.decide_and]; exact decide_eq_false hh
  rw [q]
  have hput:pc = l.take i ++ x :: l.drop i:=by rw [HPC.out]; exact zpv l x i HR.out HP.out hh
  have hlen:pc.length = l.length + 1:=by rw [hput,List.length_append,List.length_cons,List.length_take,List.length_drop]; have:=HP.out.1; omega
  have HPUT:=hdq (And.intro hput hlen)
  clear hlen
  clear q hput hcp S4 RG4 RG B3 RX3 E3 hw3 hmk hZs hG hZ hi0 hzz hs0 hb0 hne hGB hh
  go_wp2_with (first | (refine zbn rfl (zii _ _ _ rfl rfl rfl HMK.out) ?_; rw [← HW3.out]))
  rw [HCP.out]
  unfold ac
  have HR5:=hdq (show Row w4 w.heap.size #[.int .u32 (x.code:Int),.string x.name,.int .u8 (x.kind:Int),.int .u32 (x.par:Int)] 61 from HR4.out)
  go_wp2_with (first | (refine zaq rfl rfl 61 _ rfl w.heap.size rfl HR5.out _ Tryz.underlying61 rfl (zcm x) ?_))
  have RV:=Row.new w4 (ac x).toArray 61
  have RG5:=HG4.out.alloc (.cells (ac x).toArray 61)
  have hne:w4.heap.size ≠ G:=by have:=HG4.out.lt; omega
  have hz:w.heap.size≤(w4.alloc (.cells (ac x).toArray 61)).heap.size:=by have:=HB4.out.size; simp; omega
  have HI:=hdq (zks w.heap.size G l.length i w4.heap.size l x _ RG5 RV hne hz HGB.out.1 rfl HP.out.1 HL.out)
  have HB5:=hdq ((zaa (Below.refl _ w4) (.cells (ac x).toArray 61)).mono HB4.out.size)
  clear RV RG5 hne hz
  refine HI.out.mono ?_
  rintro _ w6 ⟨v6,rfl,ho6,hb6⟩
  have HO6:=hdq ho6
  have HB6:=hdq (HB4.out.trans (HB5.out.trans hb6))
  clear ho6 hb6 HI
  go_wp2_with fail
  refine bodyPost_ret (v:=v6) (by simp [results,Tryz.results57,go_sem]) rfl ⟨_,rfl,?_,HB6.out⟩
  rw [HPUT.out.2,HPUT.out.1]
  exact HO6.out
end Go.Proofs.YtlpdfglbdijkoaaGreatDoor