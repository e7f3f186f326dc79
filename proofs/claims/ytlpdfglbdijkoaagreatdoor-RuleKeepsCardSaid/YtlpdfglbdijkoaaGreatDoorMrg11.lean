/-
  Own texts, several in one (RowSet, Insert, EqN, Chart).
-/
import Derived.Test.YtlpdfglbdijkoaaGreatDoorMrg10
import Derived.Test.YtlpdfglbdijkoaaGreatDoorMrg4
import Derived.Laws.IdiomCopy
import Derived.Lib.AppendZerosOnto
import Derived.Lib.Overlaps
import Derived.Laws.Externs
import Derived.Laws.NewBlocks
import Derived.Test.YtlpdfglbdijkoaaGreatDoorMrg8
namespace Go.Proofs.YtlpdfglbdijkoaaGreatDoor
open Go.RowKit
set_option linter.unusedVariables false
set_option linter.unusedSimpArgs false
def putAt:List Value→Nat→Array Value→Array Value
 | [],_,cur=>cur
 | v :: r,o,cur=>putAt r (o + 1) (cur.setIfInBounds o v)
theorem zax:∀ (vs:List Value) (o:Nat) (cur:Array Value),(putAt vs o cur).size = cur.size
 | [],_,_=>rfl
 | v :: r,o,cur=>by unfold putAt; rw [zax r]; simp
theorem zbx:∀ (vs:List Value) (o:Nat) (cur:Array Value) (j:Nat),(putAt vs o cur)[j]? = if o≤j∧j < o + vs.length∧j < cur.size then vs[j - o]? else cur[j]?
 | [],o,cur,j=>by
  unfold putAt
  rw [if_neg (by simp; omega)]
 | v :: r,o,cur,j=>by
  unfold putAt
  rw [zbx r (o + 1) _ j,Array.getElem?_setIfInBounds,Array.size_setIfInBounds]
  by_cases h:j = o
  ·subst h
   rw [if_neg (by omega)]
   by_cases hs:j < cur.size
   ·rw [if_pos rfl,if_pos hs,if_pos ⟨Nat.le_refl _,by simp,hs⟩]
    simp
   ·rw [if_pos rfl,if_neg hs,if_neg (by omega),Array.getElem?_eq_none (by omega)]
  ·by_cases c:o + 1≤j∧j < o + 1 + r.length∧j < cur.size
   ·rw [if_pos c,if_pos (by simp; omega),show j - o = (j - (o + 1)) + 1 by omega,List.getElem?_cons_succ]
   ·rw [if_neg c,if_neg (fun e=>h e.symm),if_neg (by simp; omega)]
theorem zaf (w:World) (g k:Nat) (v:Value):Stored w g (w.setCell ⟨g,k,none⟩ v):=by
 unfold World.setCell
 refine ⟨fun j hj=>?_,by simp,rfl,rfl,rfl⟩
 simp only [Array.getElem?_modify]
 rw [if_neg (fun e=>hj e.symm)]
theorem Stored.trans {a b c:World} {g:Nat} (h:Stored a g b) (k:Stored b g c):Stored a g c :=
 ⟨fun j hj=>(k.other j hj).trans (h.other j hj),k.size.trans h.size,k.os.trans h.os,k.tape.trans h.tape,k.output.trans h.output⟩
theorem Stored.refl (a:World) (g:Nat):Stored a g a:=⟨fun _ _=>rfl,rfl,rfl,rfl,rfl⟩
theorem zbh {a b:World} {g:Nat} (h:Stored a g b):Stored a g b.drew:=⟨h.other,h.size,h.os,h.tape,h.output⟩
theorem zag (g:Nat):∀ (vs:List Value) (o:Nat) (w:World),Stored w g (w.setCells g o vs)
 | [],_,w=>Stored.refl w g
 | v :: r,o,w=>(zaf w g o v).trans (zag g r (o + 1) _)
theorem Row.setCells {g:Nat} {t:TypeId}:∀ (vs:List Value) (o:Nat) {w:World} {cur:Array Value},Row w g cur t→Row (w.setCells g o vs) g (putAt vs o cur) t
 | [],_,_,_,h=>h
 | v :: r,o,_,_,h=>Row.setCells r (o + 1) (h.set o v)
theorem zfi {P:Program} {W:World} {g:Nat} {cur:Array Value} {t:TypeId} (R:Row W g cur t) (dT sT ty elem:TypeId) (o dLen dCap sb so sLen sCap:Nat) (cs:List Value)
  (hu:P.underlying dT = some (.slice elem)) (hs:(P.info? elem).map (·.size) = some 1) (hn:cs.length = Nat.min sLen dLen) (hsrc:∀ j v,cs[j]? = some v→W.cell? ⟨sb,so + j,none⟩ = some v) (ho:o + cs.length≤cur.size) (h1:∀ v ∈ cs,v.oneCell' = true) :
  (Builtin.copy_ #[dT,sT] ty #[.slice (some ⟨g,o,none⟩) dLen dCap,.slice (some ⟨sb,so,none⟩) sLen sCap]).run P W = .ok (goInt cs.length) (W.setCells g o cs) :=
 run_copy_cells W dT sT ty elem g o dLen dCap ⟨sb,so,none⟩ sLen sCap cs hu hs hn (fun j v hj=>by rw [show (⟨sb,so,none⟩:Addr).add j = ⟨sb,so + j,none⟩ by simp [Addr.add]]; exact hsrc j v hj)
  (fun j hj=>by rw [R.cell,Array.getElem?_eq_getElem (by omega)]; rfl) (fun j hj=>frozen_of_row W g (o + j) cur t R) h1
section
variable {P:Program}
theorem zcs {ρ:Operand→Value} {o:Oper} (d s:Operand) (t1 t2:TypeId) (ho:o.op = .call { callee:=.builtin .copy,args:=#[d,s],argTypes:=#[t1,t2] }) {vd vs v':Value} (hd:ρ d = vd) (hs:ρ s = vs) {w w':World} (hr:(Builtin.copy_ #[t1,t2] o.type #[vd,vs]).run P w = .ok v' w'):(execOp ρ o).run P w = .ok (.value v') w':=by
 unfold execOp
 simp only [ho,resolve,invoke,builtin,Sem.run_bind,Sem.run_pure,Result.andThen_ok,List.map_toArray,List.map_cons,List.map_nil,hd,hs,hr]
theorem zao {ρ:Operand→Value} {o:Oper} (d s:Operand) (t1 t2:TypeId) (ho:o.op = .call { callee:=.builtin .append,args:=#[d,s],argTypes:=#[t1,t2] }) {vd vs v':Value} (hd:ρ d = vd) (hs:ρ s = vs) {w w':World} (hr:(Builtin.append_ #[t1,t2] o.type #[vd,vs]).run P w = .ok v' w'):(execOp ρ o).run P w = .ok (.value v') w':=by
 unfold execOp
 simp only [ho,resolve,invoke,builtin,Sem.run_bind,Sem.run_pure,Result.andThen_ok,List.map_toArray,List.map_cons,List.map_nil,hd,hs,hr]
theorem zbn {ops:Array Oper} {rest:List Oper} {o:Oper} {a:Act} {Q:Exit→Act→World→Prop} {W W':World} {v:Value} (hgd:o.guard = none) (hr:(execOp a.eval o).run P W = .ok (.value v) W') (h:wpList P ops Q rest (a.put o.dst v) W'):wpList P ops Q (o :: rest) a W:=by
 refine wpList_plain hgd fun K hK=>?_
 unfold Oper.wp
 rw [hr]
 exact hK _ _ h
variable {ops:Array Oper}
theorem zka {S:World→Prop} {o:Oper} {v:Value} {F:Act} {w w':World} (hw:Region.wanted o (yielded ops F.tmps) = true) (hS:S w') (hr:(execOp F.eval o).run P w = .ok (.value v) w'):YieldsV P ops S o v F w:=.inr (.inl ⟨hw,w',hr,hS⟩)
end
theorem zbo (g o j:Nat):(⟨g,o,none⟩:Addr).add j = ⟨g,o + j,none⟩:=by simp [Addr.add]
theorem ziw (k:IntKind) (l:List Int):∀ u ∈ nv k l,u.oneCell' = true:=by
 intro u hu
 obtain ⟨z,_,rfl⟩:=List.mem_map.1 hu
 rfl
theorem zbs (k:IntKind) (l:List Int):(nv k l).length = l.length:=by simp [nv]
theorem zmh (k:IntKind) (xs:List Int) (x:Int) (i n:Nat) (cur:Array Value) (hl:xs.length = n) (hi:i < n) (hs:n + 1≤cur.size) (ht:cur.toList.take i = nv k (xs.take i)) :
  (putAt [.int k x] i (putAt (nv k (xs.drop i)) (i + 1) cur)).toList.take (n + 1) = nv k (xs.take i ++ x :: xs.drop i):=by
 apply List.ext_getElem?
 intro j
 rw [List.getElem?_take]
 by_cases hj:j < n + 1
 ·rw [if_pos hj,Array.getElem?_toList,zbx,zbx,zax]
  have hd:(nv k (xs.drop i)).length = n - i:=by rw [zbs,List.length_drop,hl]
  have e0:(nv k (xs.take i ++ x :: xs.drop i)) = nv k (xs.take i) ++ .int k x :: nv k (xs.drop i):=by simp [nv]
  have hlt:(nv k (xs.take i)).length = i:=by rw [zbs,List.length_take]; omega
  rw [e0]
  by_cases c1:j < i
  ·rw [if_neg (by simp; omega),if_neg (by omega),List.getElem?_append_left (by omega),← ht,List.getElem?_take,if_pos c1,Array.getElem?_toList]
  ·by_cases c2:j = i
   ·subst c2
    rw [if_pos ⟨Nat.le_refl _,by simp,by omega⟩,List.getElem?_append_right (by omega),hlt]
    simp
   ·rw [if_neg (by simp; omega),if_pos ⟨by omega,by omega,by omega⟩,List.getElem?_append_right (by omega),hlt,show j - i = (j - (i + 1)) + 1 by omega,List.getElem?_cons_succ]
 ·rw [if_neg hj,List.getElem?_eq_none]
  rw [zbs,List.length_append,List.length_cons,List.length_take,List.length_drop]
  omega
set_option maxHeartbeats 4000000 in
set_option maxRecDepth 100000 in
theorem zkp (B g cap n p vb:Nat) (cur:Array Value) (xs:List Int) (x:Int) (w:World) (RG:Row w g cur 56) (RV:Row w vb #[.int .u16 x] 56) (hne:vb ≠ g) (hB:B≤g) (hxs:xs.length = n) (hi:p < n) (hroom:n + 1≤cap) (hcap:cap≤maxLen∧n≤100000) (hcs:cur.size = cap) (hcur:cur.toList.take n = nv .u16 xs) :
  Calls Tryz.prog 92 #[.slice (some ⟨g,0,none⟩) n cap,.int .i64 (p:Int),.slice (some ⟨vb,0,none⟩) 1 1] w fun e w'=>∃ v',e = .returned v'∧w'.ownsRow B 56 1 v' (n + 1) (nv .u16 (xs.take p ++ x :: xs.drop p))∧Below B w w':=by
 have hov:∀ (W:World) lb cb,Row W g cur 56→Row W vb #[.int .u16 x] 56→(callFunc 133 #[.slice (some ⟨vb,0,none⟩) 1 1,.slice (some ⟨g,p + 1,none⟩) lb cb]).run Tryz.prog W = .ok (.value (.bool false)) W:=fun W lb cb R1 R2=>by
  have hA:W.shape? vb = some (56,1):=by unfold Row at R2; simp [World.shape?,R2]
  have hG:W.shape? g = some (56,cur.size):=by unfold Row at R1; simp [World.shape?,R1]
  rw [run_callFunc_extern Tryz.func133 (by kernel_rfl) (by kernel_rfl) (by kernel_rfl) (e:=Extern.SlicesOverlaps.overlaps #[23,23] #[4]) (by kernel_rfl),
   Lib.run_overlaps_apart W 23 4 56 Tryz.underlying23 1 (fun _=>by kernel_rfl) ⟨vb,0,none⟩ ⟨g,p + 1,none⟩ 1 1 lb cb hne _ _ 1 cur.size hA hG (by omega) (frozen_of_row W vb 0 _ _ R2) (frozen_of_row W vb 1 _ _ R2)]
  rfl
 have HG:=hdq RG
 have HV:=hdq RV
 have HOV:=hdq hov
 have hB0:(0:Int)≤(p:Int):=by omega
 have h1:(p:Int)≤(n:Int):=by omega
 have h2:(p:Int) < (n:Int):=by omega
 have h3:¬ ((p:Int) = (n:Int)):=by omega
 have h3b:((p:Int) == (n:Int)) = false:=beq_eq_false_iff_ne.2 h3
 have h4:¬ ((cap:Int) < (n:Int) + 1):=by omega
 have h5:(n:Int) + 1≤(cap:Int):=by omega
 have h6:(p:Int)≤(cap:Int):=by omega
 have h7:(n:Int)≤(cap:Int):=by omega
 have e1:IntKind.i64.wrap ((n:Int) + 1) = (n:Int) + 1:=by rw [IntKind.wrap_i64]; omega
 have e2:IntKind.i64.wrap ((p:Int) + 1) = (p:Int) + 1:=by rw [IntKind.wrap_i64]; omega
 have n1:¬ (cap = p):=by omega
 have n2:¬ (cap = p + 1):=by omega
 have n3:p≤n:=by omega
 have n4:p≤cap:=by omega
 have n5:n + 1≤cap:=by omega
 have n6:p + 1≤n + 1:=by omega
 have n7:p≤n + 1:=by omega
 have n8:n≤cap:=by omega
 have m1:(p:Int) + 1≤(n:Int) + 1:=by omega
 have m2:(p:Int)≤(n:Int) + 1:=by omega
 have m3:(0:Int)≤(p:Int) + 1:=by omega
 have m4:(0:Int)≤(n:Int) + 1:=by omega
 have m5:(p:Int) + 1≤(cap:Int):=by omega
 have t1:((p:Int) + 1).toNat = p + 1:=by omega
 have t2:((n:Int) + 1).toNat = n + 1:=by omega
 have HI:=hdq (And.intro hi (And.intro hroom (And.intro hcap (And.intro hcs hxs))))
 have HCUR:=hdq hcur
 clear RG RV hov hi hroom hcap hcs hxs hcur
 go_enter Tryz.func92,Tryz.ntmps92
 have hov2:=fun lb cb=>HOV.out w lb cb HG.out HV.out
 go_wp2_with (simp only [hov2])
 refine zch (n:=9) 8 3 (by kernel_rfl) (fun c' w'=>Stored w g w'∧Row w' g (if c' then putAt (nv .u16 (xs.drop p)) (p + 1) cur else cur) 56) (fun i=>(#[.slice (some ⟨g,0,none⟩) (n + 1) cap,.int .i64 (p:Int),.int .i64 1,.int .i64 ((p:Int) + 1),.slice (some ⟨g,p + 1,none⟩) (n - p) (cap - (p + 1)),.slice (some ⟨g,0,none⟩) (n + 1) cap,.int .i64 (p:Int),.slice (some ⟨g,p,none⟩) (n + 1 - p) (cap - p),.int .i64 ((n - p:Nat):Int)]:Array Value).getD i undef) (by kernel_rfl) (by kernel_rfl) ⟨zbh (Stored.refl w g),HG.out⟩ rfl ?_
 intro F hF
 simp only [fill,if_true,dstAt] at hF
 simp [Act.put] at hF
 subst hF
 refine ⟨?_,?_⟩
 ·intro i o ho c wx hcm S
  rcases i with _ | _ | _ | _ | _ | _ | _ | _ | _ | i
  all_goals (first | (simp at ho; done) | (obtain rfl:=Option.some.inj ho))
  ·exact zas rfl S (by go_simp)
  ·exact zas rfl S (by go_simp)
  ·exact zas rfl S (by go_simp)
  ·exact zas rfl S (by go_simp)
  ·exact zas rfl S (by go_simp)
  ·exact zas rfl S (by go_simp)
  ·exact zas rfl S (by go_simp)
  ·exact zas rfl S (by go_simp)
  ·obtain rfl:c = false:=hcm (by kernel_rfl)
   have hI:=HI.out
   have hl:(nv .u16 (xs.drop p)).length = n - p:=by rw [zbs,List.length_drop,hI.2.2.2.2]
   have hr:=fun ty=>zfi (P:=Tryz.prog) S.2 35 35 ty 56 (p + 1) (n - p) (cap - (p + 1)) g p (n + 1 - p) (cap - p) (nv .u16 (xs.drop p)) Tryz.underlying35 (by kernel_rfl) (by rw [hl]; show n - p = min (n + 1 - p) (n - p); omega) (fun j v hj=>by
    have S2:=S.2
    rw [S2.cell (p + j)]
    have h:=congrArg (fun t=>t[p + j]?) HCUR.out
    simp only [List.getElem?_take] at h
    have hjl:j < n - p:=by
     by_cases cc:j < n - p
     ·exact cc
     ·rw [List.getElem?_eq_none (by rw [hl]; omega)] at hj; cases hj
    rw [if_pos (by omega)] at h
    show cur[p + j]? = some v
    rw [← Array.getElem?_toList,h,← hj]
    simp [nv]) (by rw [hl]; have:=hI; show p + 1 + (n - p)≤cur.size; omega) (ziw _ _)
   rw [hl] at hr
   exact zka rfl ⟨S.1.trans (zag g _ _ _),Row.setCells _ _ S.2⟩ (zcs _ _ _ _ rfl rfl rfl (hr _))
 ·intro wy S
  simp only [if_true] at S
  have HS:=hdq S
  have HV2:=hdq (HV.out.stored S.1 hne)
  have hcp:∀ ty,(Builtin.copy_ #[35,23] ty #[.slice (some ⟨g,p,none⟩) (n + 1 - p) (cap - p),.slice (some ⟨vb,0,none⟩) 1 1]).run Tryz.prog wy = .ok (goInt 1) (wy.setCells g p [.int .u16 x]):=fun ty =>
   zfi S.2 35 23 ty 56 p (n + 1 - p) (cap - p) vb 0 1 1 [.int .u16 x] Tryz.underlying35 (by kernel_rfl) (by have:=HI.out; show 1 = min 1 (n + 1 - p); omega) (fun j v hj=>by rw [Nat.zero_add,HV2.out.cell j]; simpa using hj) (by rw [zax]; have:=HI.out; simp; omega) (by simp [Value.oneCell'])
  clear S
  go_wp2_with (first | (at_builtin; refine zbn rfl (zcs _ _ _ _ rfl rfl rfl (hcp _)) ?_))
  go_ret
  have hI:=HI.out
  refine ⟨_,rfl,⟨by rw [zbs,List.length_append,List.length_cons,List.length_take,List.length_drop]; omega,.inr ⟨g,cap,_,rfl,hB,Row.setCells [.int .u16 x] p HS.out.2,by omega,hI.2.2.1.1,by rw [zax,zax]; omega,?_⟩⟩,(HS.out.1.trans (zag g _ p _)).below (Below.refl B w) hB⟩
  rw [Nat.mul_one]
  refine zmh .u16 xs x p n cur hI.2.2.2.2 hI.1 (by omega) ?_
  have h:=congrArg (List.take p) HCUR.out
  rw [List.take_take,Nat.min_eq_left (by omega)] at h
  rw [h]
  simp [nv,List.map_take]
theorem zro (k:IntKind) (xs:List Int) (x:Int) (i n:Nat) (cur:Array Value) (hl:xs.length = n) (hi:i < n) (hs:n + 1≤cur.size) (ht:cur.toList.take i = nv k (xs.take i)) :
  (putAt (nv k (xs.drop i)) (i + 1) (putAt [.int k x] i cur)).toList.take (n + 1) = nv k (xs.take i ++ x :: xs.drop i):=by
 rw [← zmh k xs x i n cur hl hi hs ht]
 congr 2
 apply Array.ext_getElem?
 intro j
 have hd:(nv k (xs.drop i)).length = n - i:=by rw [zbs,List.length_drop,hl]
 simp only [zbx,zax,hd,List.length_singleton]
 by_cases c1:i + 1≤j∧j < i + 1 + (n - i)∧j < cur.size
 ·rw [if_pos c1,if_neg (by omega),if_pos c1]
 ·rw [if_neg c1]
  by_cases c2:i≤j∧j < i + 1∧j < cur.size
  ·rw [if_pos c2,if_pos c2]
  ·rw [if_neg c2,if_neg c2,if_neg c1]
set_option maxHeartbeats 4000000 in
set_option maxRecDepth 100000 in
theorem zkq (B g n p vb:Nat) (cur:Array Value) (xs:List Int) (x:Int) (w:World) (RG:Row w g cur 56) (RV:Row w vb #[.int .u16 x] 56) (hne:vb ≠ g) (hB:B≤w.heap.size) (hxs:xs.length = n) (hp:p < n) (hn:n≤100000) (hcs:cur.size = n) (hcur:cur.toList = nv .u16 xs) :
  Calls Tryz.prog 92 #[.slice (some ⟨g,0,none⟩) n n,.int .i64 (p:Int),.slice (some ⟨vb,0,none⟩) 1 1] w fun e w'=>∃ v',e = .returned v'∧w'.ownsRow B 56 1 v' (n + 1) (nv .u16 (xs.take p ++ x :: xs.drop p))∧Below B w w':=by
 obtain ⟨i0,hi0,hz0,hs0,hb0⟩:∃ i,Tryz.prog.info? 56 = some i∧i.zero = some (.int .u16 0)∧i.size = 1∧i.bytes = 2:=by
  have h:(Tryz.prog.info? 56).map (fun i=>(i.zero,i.size,i.bytes)) = some (some (.int .u16 0),1,2):=by kernel_rfl
  obtain ⟨i,hi,h⟩:=Option.map_eq_some_iff.1 h
  simp only [Prod.mk.injEq] at h
  exact ⟨i,hi,h.1,h.2.1,h.2.2⟩
 have hcell:∀ (j:Nat) (v:Value),(nv .u16 xs)[j]? = some v→w.cell? ⟨g,0 + j,none⟩ = some v:=fun j v hj=>by
  rw [Nat.zero_add,RG.cell j,← Array.getElem?_toList,hcur]
  exact hj
 have hold:(Builtin.firstCells i0.size p (.slice (some ⟨g,0,none⟩) p n)).run Tryz.prog w.drew = .ok (nv .u16 (xs.take p)).toArray w.drew:=by
  rw [hs0]
  exact run_firstCells_some w.drew 1 p ⟨g,0,none⟩ p n (nv .u16 (xs.take p)) (by rw [zbs,List.length_take]; omega) (fun j v hj=>by
   rw [show (⟨g,0,none⟩:Addr).add j = ⟨g,0 + j,none⟩ from zbo g 0 j]
   refine hcell j v ?_
   simp only [nv,List.map_take,List.getElem?_take] at hj ⊢
   split at hj
   ·exact hj
   ·cases hj)
 obtain ⟨G,hG⟩:∃ G,G = grownCap w (n + 1) n 56:=⟨_,rfl⟩
 have hG1:n + 1≤G:=by rw [hG]; exact grownCap_ge w _ _ _
 have hG2:G≤maxLen:=by rw [hG]; exact grownCap_le_maxLen w _ _ _ (by unfold maxLen; omega)
 obtain ⟨ROW,hROW⟩:∃ ROW:Array Value,ROW = (nv .u16 (xs.take p)).toArray ++ Builtin.zeroCells (Value.int .u16 0).cells (n + 1 - p) ++ Builtin.zeroCells (Value.int .u16 0).cells (G - (n + 1)):=⟨_,rfl⟩
 have hRs:ROW.size = G:=by
  rw [hROW]
  have h1:(nv .u16 (xs.take p)).length = p:=by rw [zbs,List.length_take]; omega
  simp [Builtin.zeroCells,Value.cells,h1]
  omega
 have hRt:ROW.toList.take p = nv .u16 (xs.take p):=by
  rw [hROW,Array.toList_append,Array.toList_append,List.append_assoc]
  have h1:(nv .u16 (xs.take p)).length = p:=by rw [zbs,List.length_take]; omega
  show List.take p (nv .u16 (xs.take p) ++ _) = _
  rw [List.take_append_of_le_length (by omega),List.take_of_length_le (by omega)]
 have hrz:∀ ty,(Builtin.append_ #[35,3] ty #[.slice (some ⟨g,0,none⟩) p n,.int .i64 ((n:Int) + 1 - (p:Int))]).run Tryz.prog w = .ok (.slice (some ⟨w.heap.size,0,none⟩) (n + 1) G) (w.drew.alloc (.cells ROW 56)):=fun ty=>by
  have h:=Lib.run_append_grow_zeros (P:=Tryz.prog) w 35 3 ty 56 i0 (.int .u16 0) .i64 .i64 Tryz.underlying35 Tryz.underlying3 hi0 hz0 (some ⟨g,0,none⟩) p n (nv .u16 (xs.take p)) hold (n + 1 - p) (by omega) (by omega) (by omega) (by omega) (by rw [hb0]; omega) (by rw [hb0]; exact growslice_fits (by omega) (by omega))
  rw [show p + (n + 1 - p) = n + 1 by omega,← hG,← hROW] at h
  rw [show (n:Int) + 1 - (p:Int) = ((n + 1 - p:Nat):Int) by omega]
  exact h
 have R1:Row (w.drew.alloc (.cells ROW 56)) w.heap.size ROW 56:=Row.new w.drew ROW 56
 have B1:Below w.heap.size w (w.drew.alloc (.cells ROW 56)):=zaa (zat (Below.refl _ w)) _
 have hlg:=RG.lt
 have hlv:=RV.lt
 have HRZ:=hdq hrz
 obtain ⟨gn,hgn⟩:∃ g,g = w.heap.size:=⟨_,rfl⟩
 rw [← hgn] at R1 HRZ B1 hB hlg hlv
 have HGN:=hdq hgn
 clear hgn
 generalize hW1:w.drew.alloc (.cells ROW 56) = w1 at *
 have RG1:Row w1 g cur 56:=(B1.block g hlg).trans RG
 have RV1:Row w1 vb #[.int .u16 x] 56:=(B1.block vb hlv).trans RV
 have hcpA:∀ ty,(Builtin.copy_ #[35,23] ty #[.slice (some ⟨gn,p,none⟩) (n + 1 - p) (G - p),.slice (some ⟨vb,0,none⟩) 1 1]).run Tryz.prog w1 = .ok (goInt 1) (w1.setCells gn p [.int .u16 x]):=fun ty =>
  zfi R1 35 23 ty 56 p (n + 1 - p) (G - p) vb 0 1 1 [.int .u16 x] Tryz.underlying35 (by kernel_rfl) (by show 1 = min 1 (n + 1 - p); omega) (fun j v hj=>by rw [Nat.zero_add,RV1.cell j]; simpa using hj) (by rw [hRs]; simp; omega) (by simp [Value.oneCell'])
 have HCA:=hdq hcpA
 have R2:=Row.setCells [.int .u16 x] p R1
 have S2:=zag gn [.int .u16 x] p w1
 have RG2:Row (w1.setCells gn p [.int .u16 x]) g cur 56:=RG1.stored S2 (by omega)
 have B2:Below gn w (w1.setCells gn p [.int .u16 x]):=S2.below B1 (Nat.le_refl _)
 generalize hW2:w1.setCells gn p [.int .u16 x] = w2 at *
 have HW2:=hdq hW2
 clear hW1 hW2
 have HR2:=hdq R2
 have HG2:=hdq RG2
 have HB2:=hdq B2
 have HX:=hdq (And.intro hp (And.intro hn (And.intro hcs (And.intro hxs (And.intro hG1 (And.intro hG2 (And.intro hRs hRt)))))))
 have HCUR:=hdq hcur
 have HGL:=hdq hlg
 have h2:(p:Int) < (n:Int):=by omega
 have h1:(p:Int)≤(n:Int):=by omega
 have h3:¬ ((p:Int) = (n:Int)):=by omega
 have h3b:((p:Int) == (n:Int)) = false:=beq_eq_false_iff_ne.2 h3
 have h4:(n:Int) < (n:Int) + 1:=by omega
 have hB0:(0:Int)≤(p:Int):=by omega
 have e1:IntKind.i64.wrap ((n:Int) + 1) = (n:Int) + 1:=by rw [IntKind.wrap_i64]; omega
 have e2:IntKind.i64.wrap ((p:Int) + 1) = (p:Int) + 1:=by rw [IntKind.wrap_i64]; omega
 have e3:IntKind.i64.wrap ((n:Int) + 1 - (p:Int)) = (n:Int) + 1 - (p:Int):=by rw [IntKind.wrap_i64]; omega
 have n1:¬ (G = p):=by omega
 have n2:¬ (G = p + 1):=by omega
 have n3:p≤n:=by omega
 have n9:¬ (n = p):=by omega
 have n6:p + 1≤n + 1:=by omega
 have n7:p≤n + 1:=by omega
 have m1:(p:Int) + 1≤(n:Int) + 1:=by omega
 have m2:(p:Int)≤(n:Int) + 1:=by omega
 have m3:(0:Int)≤(p:Int) + 1:=by omega
 have t1:((p:Int) + 1).toNat = p + 1:=by omega
 clear RG RV hp hn hcs hxs hcur hrz hcpA hold hcell hi0 hz0 hs0 hb0 hG1 hG2 hRs hRt R1 B1 RG1 RV1 R2 S2 RG2 B2 hlg hlv hG hROW
 go_enter Tryz.func92,Tryz.ntmps92
 go_wp2_with (first | (at_builtin; refine zbn rfl (zao _ _ _ _ rfl rfl rfl (HRZ.out _)) ?_))
 rw [HCA.out]
 go_wp2_with fail
 refine zch (n:=9) 8 3 (by kernel_rfl) (fun c' w'=>Stored w2 gn w'∧Row w' g cur 56∧Row w' gn (if c' then putAt (nv .u16 (xs.drop p)) (p + 1) (putAt [.int .u16 x] p ROW) else putAt [.int .u16 x] p ROW) 56) (fun i=>(#[.slice (some ⟨gn,0,none⟩) (n + 1) G,.int .i64 (p:Int),.int .i64 1,.int .i64 ((p:Int) + 1),.slice (some ⟨gn,p + 1,none⟩) (n - p) (G - (p + 1)),.slice (some ⟨g,0,none⟩) n n,.int .i64 (p:Int),.slice (some ⟨g,p,none⟩) (n - p) (n - p),.int .i64 ((n - p:Nat):Int)]:Array Value).getD i undef) (by kernel_rfl) (by kernel_rfl) ⟨zbh (Stored.refl w2 gn),HG2.out,HR2.out⟩ rfl ?_
 intro F hF
 simp only [fill,if_true,dstAt] at hF
 simp [Act.put] at hF
 subst hF
 refine ⟨?_,?_⟩
 ·intro i o ho c wx hcm S
  rcases i with _ | _ | _ | _ | _ | _ | _ | _ | _ | i
  all_goals (first | (simp at ho; done) | (obtain rfl:=Option.some.inj ho))
  ·exact zas rfl S (by go_simp)
  ·exact zas rfl S (by go_simp)
  ·exact zas rfl S (by go_simp)
  ·exact zas rfl S (by go_simp)
  ·exact zas rfl S (by go_simp)
  ·exact zas rfl S (by go_simp)
  ·exact zas rfl S (by go_simp)
  ·exact zas rfl S (by go_simp)
  ·obtain rfl:c = false:=hcm (by kernel_rfl)
   have hX:=HX.out
   have hl:(nv .u16 (xs.drop p)).length = n - p:=by rw [zbs,List.length_drop,hX.2.2.2.1]
   have hr:=fun ty=>zfi (P:=Tryz.prog) S.2.2 35 35 ty 56 (p + 1) (n - p) (G - (p + 1)) g p (n - p) (n - p) (nv .u16 (xs.drop p)) Tryz.underlying35 (by kernel_rfl) (by rw [hl]; show n - p = min (n - p) (n - p); omega) (fun j v hj=>by
    have S2:=S.2.1
    rw [S2.cell (p + j),← Array.getElem?_toList,HCUR.out,← hj]
    simp [nv]) (by rw [hl]; have:=hX; show p + 1 + (n - p)≤(putAt [.int .u16 x] p ROW).size; rw [zax]; omega) (ziw _ _)
   rw [hl] at hr
   exact zka rfl ⟨S.1.trans (zag gn _ _ _),S.2.1.stored (zag gn _ _ _) (by have:=HGL.out; omega),Row.setCells _ _ S.2.2⟩ (zcs _ _ _ _ rfl rfl rfl (hr _))
 ·intro wy S
  simp only [if_true] at S
  have HS:=hdq S
  clear S
  go_wp2_with fail
  go_ret
  have hX:=HX.out
  refine ⟨_,rfl,⟨by rw [zbs,List.length_append,List.length_cons,List.length_take,List.length_drop]; omega,.inr ⟨gn,G,_,rfl,hB,HS.out.2.2,by omega,hX.2.2.2.2.2.1,by rw [zax,zax]; omega,?_⟩⟩,(HS.out.1.below HB2.out (Nat.le_refl _)).mono (by omega)⟩
  rw [Nat.mul_one]
  exact zro .u16 xs x p n ROW hX.2.2.2.1 hX.1 (by omega) hX.2.2.2.2.2.2.2
set_option maxHeartbeats 1000000 in
set_option maxRecDepth 100000 in
theorem zrv (v1 v2:Value) (l:List Int) (w:World) (h1:NsAt .u32 w v1 l) (h2:NsAt .u32 w v2 l) (hl:l.length≤1000000) :
  Calls Tryz.prog 243 #[v1,v2] w fun e w'=>e = .returned (.bool true)∧Below w.heap.size w w':=by
 obtain ⟨p1,cap1,rfl,h1⟩:=h1
 obtain ⟨p2,cap2,rfl,h2⟩:=h2
 have H1:=hdq h1
 have H2:=hdq h2
 have HL:=hdq hl
 clear h1 h2 hl
 go_enter Tryz.func243,Tryz.ntmps243
 go_wp2_with fail
 go_loopw [13] (fun i wr=>∃ k:Nat,k≤l.length∧i = .int .i64 k∧Below w.heap.size w wr) (fun i _=>l.length - (intOf i).toNat)
 case atStart=>exact ⟨0,by omega,rfl,Below.refl _ _⟩
 case round =>
  obtain ⟨k,hk,rfl,BB⟩:=hrel
  have HBB:=hdq BB
  clear BB
  by_cases hlt:k < l.length
  ·have hk1:(0:Int)≤(k:Int):=by omega
   have hk2:(k:Int) < (l.length:Int):=by omega
   obtain ⟨b1,o1,rfl,e1⟩:∃ b off,p1 = some ⟨b,off,none⟩∧∀ i,i < l.length→w.cell? ⟨b,off + i,none⟩ = some (.int .u32 (l.getD i 0)):=by
    rcases H1.out with h | h
    ·exact absurd hlt (by rw [h]; simp)
    ·exact h
   obtain ⟨b2,o2,rfl,e2⟩:∃ b off,p2 = some ⟨b,off,none⟩∧∀ i,i < l.length→w.cell? ⟨b,off + i,none⟩ = some (.int .u32 (l.getD i 0)):=by
    rcases H2.out with h | h
    ·exact absurd hlt (by rw [h]; simp)
    ·exact h
   have d:∀ n:QW (fun w'=>Below wr.heap.size wr w'),n.w.cell? ⟨b1,o1 + k,none⟩ = some (.int .u32 (l.getD k 0)):=fun n=>zae (e1 k hlt) (zab HBB.out n.h)
   have f:∀ n:QW (fun w'=>Below wr.heap.size wr w'),n.w.cell? ⟨b2,o2 + k,none⟩ = some (.int .u32 (l.getD k 0)):=fun n=>zae (e2 k hlt) (zab HBB.out n.h)
   generalize l.getD k 0 = x at *
   clear e1 e2
   go_wp2_with fail
   refine zbj (fun w'=>Below wr.heap.size wr w') (by kernel_rfl) (by kernel_rfl) (zat (Below.refl _ _)) (fun hne=>?_)
   repeat (go_big_quiet_step (fail))
   refine wpQuiet_nil ?_
   intro _ hw'
   obtain ⟨⟨wy,S⟩,rfl⟩:=hw'
   clear d f
   have ev:IntKind.i64.wrap ((k:Int) + 1) = ((k + 1:Nat):Int):=by have:=HL.out; rw [IntKind.wrap_i64]; omega
   go_wp2_with fail
   exact ⟨⟨k + 1,by omega,rfl,zab HBB.out S⟩,by simp [intOf]; omega⟩
  ·obtain rfl:k = l.length:=by omega
   have hk0:¬ ((l.length:Int) < (l.length:Int)):=by omega
   go_wp2
   go_ret
   exact ⟨rfl,HBB.out⟩
set_option maxHeartbeats 1000000 in
set_option maxRecDepth 100000 in
theorem zdf (v1 v2:Value) (l:List Int) (w:World) (h1:NsAt .u16 w v1 l) (h2:NsAt .u16 w v2 l) (hl:l.length≤1000000) :
  Calls Tryz.prog 14 #[v1,v2] w fun e w'=>e = .returned (.bool true)∧Below w.heap.size w w':=by
 obtain ⟨p1,cap1,rfl,h1⟩:=h1
 obtain ⟨p2,cap2,rfl,h2⟩:=h2
 have H1:=hdq h1
 have H2:=hdq h2
 have HL:=hdq hl
 clear h1 h2 hl
 go_enter Tryz.func14,Tryz.ntmps14
 go_wp2_with fail
 go_loopw [13] (fun i wr=>∃ k:Nat,k≤l.length∧i = .int .i64 k∧Below w.heap.size w wr) (fun i _=>l.length - (intOf i).toNat)
 case atStart=>exact ⟨0,by omega,rfl,Below.refl _ _⟩
 case round =>
  obtain ⟨k,hk,rfl,BB⟩:=hrel
  have HBB:=hdq BB
  clear BB
  by_cases hlt:k < l.length
  ·have hk1:(0:Int)≤(k:Int):=by omega
   have hk2:(k:Int) < (l.length:Int):=by omega
   obtain ⟨b1,o1,rfl,e1⟩:∃ b off,p1 = some ⟨b,off,none⟩∧∀ i,i < l.length→w.cell? ⟨b,off + i,none⟩ = some (.int .u16 (l.getD i 0)):=by
    rcases H1.out with h | h
    ·exact absurd hlt (by rw [h]; simp)
    ·exact h
   obtain ⟨b2,o2,rfl,e2⟩:∃ b off,p2 = some ⟨b,off,none⟩∧∀ i,i < l.length→w.cell? ⟨b,off + i,none⟩ = some (.int .u16 (l.getD i 0)):=by
    rcases H2.out with h | h
    ·exact absurd hlt (by rw [h]; simp)
    ·exact h
   have d:∀ n:QW (fun w'=>Below wr.heap.size wr w'),n.w.cell? ⟨b1,o1 + k,none⟩ = some (.int .u16 (l.getD k 0)):=fun n=>zae (e1 k hlt) (zab HBB.out n.h)
   have f:∀ n:QW (fun w'=>Below wr.heap.size wr w'),n.w.cell? ⟨b2,o2 + k,none⟩ = some (.int .u16 (l.getD k 0)):=fun n=>zae (e2 k hlt) (zab HBB.out n.h)
   generalize l.getD k 0 = x at *
   clear e1 e2
   go_wp2_with fail
   refine zbj (fun w'=>Below wr.heap.size wr w') (by kernel_rfl) (by kernel_rfl) (zat (Below.refl _ _)) (fun hne=>?_)
   repeat (go_big_quiet_step (fail))
   refine wpQuiet_nil ?_
   intro _ hw'
   obtain ⟨⟨wy,S⟩,rfl⟩:=hw'
   clear d f
   have ev:IntKind.i64.wrap ((k:Int) + 1) = ((k + 1:Nat):Int):=by have:=HL.out; rw [IntKind.wrap_i64]; omega
   go_wp2_with fail
   exact ⟨⟨k + 1,by omega,rfl,zab HBB.out S⟩,by simp [intOf]; omega⟩
  ·obtain rfl:k = l.length:=by omega
   have hk0:¬ ((l.length:Int) < (l.length:Int)):=by omega
   go_wp2
   go_ret
   exact ⟨rfl,HBB.out⟩
set_option maxHeartbeats 1000000 in
set_option maxRecDepth 100000 in
theorem zof (v1 v2:Value) (l:List Int) (w:World) (h1:NsAt .u8 w v1 l) (h2:NsAt .u8 w v2 l) (hl:l.length≤1000000) :
  Calls Tryz.prog 162 #[v1,v2] w fun e w'=>e = .returned (.bool true)∧Below w.heap.size w w':=by
 obtain ⟨p1,cap1,rfl,h1⟩:=h1
 obtain ⟨p2,cap2,rfl,h2⟩:=h2
 have H1:=hdq h1
 have H2:=hdq h2
 have HL:=hdq hl
 clear h1 h2 hl
 go_enter Tryz.func162,Tryz.ntmps162
 go_wp2_with fail
 go_loopw [13] (fun i wr=>∃ k:Nat,k≤l.length∧i = .int .i64 k∧Below w.heap.size w wr) (fun i _=>l.length - (intOf i).toNat)
 case atStart=>exact ⟨0,by omega,rfl,Below.refl _ _⟩
 case round =>
  obtain ⟨k,hk,rfl,BB⟩:=hrel
  have HBB:=hdq BB
  clear BB
  by_cases hlt:k < l.length
  ·have hk1:(0:Int)≤(k:Int):=by omega
   have hk2:(k:Int) < (l.length:Int):=by omega
   obtain ⟨b1,o1,rfl,e1⟩:∃ b off,p1 = some ⟨b,off,none⟩∧∀ i,i < l.length→w.cell? ⟨b,off + i,none⟩ = some (.int .u8 (l.getD i 0)):=by
    rcases H1.out with h | h
    ·exact absurd hlt (by rw [h]; simp)
    ·exact h
   obtain ⟨b2,o2,rfl,e2⟩:∃ b off,p2 = some ⟨b,off,none⟩∧∀ i,i < l.length→w.cell? ⟨b,off + i,none⟩ = some (.int .u8 (l.getD i 0)):=by
    rcases H2.out with h | h
    ·exact absurd hlt (by rw [h]; simp)
    ·exact h
   have d:∀ n:QW (fun w'=>Below wr.heap.size wr w'),n.w.cell? ⟨b1,o1 + k,none⟩ = some (.int .u8 (l.getD k 0)):=fun n=>zae (e1 k hlt) (zab HBB.out n.h)
   have f:∀ n:QW (fun w'=>Below wr.heap.size wr w'),n.w.cell? ⟨b2,o2 + k,none⟩ = some (.int .u8 (l.getD k 0)):=fun n=>zae (e2 k hlt) (zab HBB.out n.h)
   generalize l.getD k 0 = x at *
   clear e1 e2
   go_wp2_with fail
   refine zbj (fun w'=>Below wr.heap.size wr w') (by kernel_rfl) (by kernel_rfl) (zat (Below.refl _ _)) (fun hne=>?_)
   repeat (go_big_quiet_step (fail))
   refine wpQuiet_nil ?_
   intro _ hw'
   obtain ⟨⟨wy,S⟩,rfl⟩:=hw'
   clear d f
   have ev:IntKind.i64.wrap ((k:Int) + 1) = ((k + 1:Nat):Int):=by have:=HL.out; rw [IntKind.wrap_i64]; omega
   go_wp2_with fail
   exact ⟨⟨k + 1,by omega,rfl,zab HBB.out S⟩,by simp [intOf]; omega⟩
  ·obtain rfl:k = l.length:=by omega
   have hk0:¬ ((l.length:Int) < (l.length:Int)):=by omega
   go_wp2
   go_ret
   exact ⟨rfl,HBB.out⟩
structure Ac where
 code:Nat
 name:ByteArray
 kind:Nat
 par:Nat
def ac (x:Ac):List Value:=[.int .u32 (x.code:Int),.string x.name,.int .u8 (x.kind:Int),.int .u32 (x.par:Int)]
theorem zjx (x:Ac):(ac x).toArray.all (·.oneCell') = true:=by simp [ac,Value.oneCell']
theorem zcm (x:Ac):(Tryz.prog.info? 61).map (·.size) = some (ac x).toArray.size:=by show _ = some 4; kernel_rfl
def ac0:Ac:=⟨0,ByteArray.empty,0,0⟩
def Ac.cmp (x:Ac) (n:Nat):Int:=if x.code < n then -1 else if n < x.code then 1 else 0
theorem zjj (x:Ac) (n:Nat) (w:World):Calls Tryz.prog 136 #[.agg (ac x).toArray,.int .u32 (n:Int)] w fun e w'=>e = .returned (.int .i64 (x.cmp n))∧Below w.heap.size w w':=by
 have hB:=zaa (Below.refl _ w) (.cells (ac x).toArray 61)
 unfold ac at *
 rcases Nat.lt_trichotomy x.code n with h | h | h
 ·have e:x.cmp n = -1:=by unfold Ac.cmp; rw [if_pos h]
  have h1:(x.code:Int) < (n:Int):=by omega
  rw [e]
  clear h e
  go_enter Tryz.func136,Tryz.ntmps136
  go_wp2_with fail
  go_ret
  exact ⟨rfl,hB⟩
 ·have e:x.cmp n = 0:=by unfold Ac.cmp; rw [if_neg (by omega),if_neg (by omega)]
  have h1:¬ (x.code:Int) < (n:Int):=by omega
  have h2:¬ (n:Int) < (x.code:Int):=by omega
  rw [e]
  clear h e
  go_enter Tryz.func136,Tryz.ntmps136
  go_wp2_with fail
  go_ret
  exact ⟨rfl,hB⟩
 ·have e:x.cmp n = 1:=by unfold Ac.cmp; rw [if_neg (by omega),if_pos h]
  have h1:¬ (x.code:Int) < (n:Int):=by omega
  have h2:(n:Int) < (x.code:Int):=by omega
  rw [e]
  clear h e
  go_enter Tryz.func136,Tryz.ntmps136
  go_wp2_with fail
  go_ret
  exact ⟨rfl,hB⟩
def PosOf (l:List Ac) (n i:Nat):Prop:=i≤l.length∧(∀ t,t < i→(l.getD t ac0).code < n)∧∀ t,i≤t→t < l.length→n≤(l.getD t ac0).code
set_option maxHeartbeats 1000000 in
set_option maxRecDepth 100000 in
theorem znj (a:Option Addr) (cap:Nat) (l:List Ac) (n i:Nat) (w:World) (hE:ElsAt ac 4 ac0 w a l) (hl:l.length≤1000000) (hp:PosOf l n i) :
  Calls Tryz.prog 135 #[.slice a l.length cap,.int .u32 (n:Int),.func (.func 136) #[] #[]] w fun e w' =>
   e = .returned (.tuple #[.int .i64 (i:Int),.bool (decide (i < l.length) && decide ((l.getD i ac0).code = n))])∧Below w.heap.size w w':=by
 have HE:=hdq hE
 have HL:=hdq hl
 have HP:=hdq hp
 clear hE hl hp
 go_enter Tryz.func135,Tryz.ntmps135
 go_wp2_with fail
 go_loopw [9,10] (fun iv jv wr=>∃ p q:Nat,iv = .int .i64 (p:Int)∧jv = .int .i64 (q:Int)∧p≤i∧i≤q∧q≤l.length∧Below w.heap.size w wr) (fun iv jv _=>(intOf jv).toNat - (intOf iv).toNat)
 case atStart=>exact ⟨0,l.length,rfl,rfl,by omega,HP.out.1,by omega,Below.refl _ _⟩
 case round =>
  obtain ⟨p,q,rfl,rfl,h1,h2,h3,BB⟩:=hrel
  have HBB:=hdq BB
  clear BB
  by_cases hpq:p < q
  ·have hpqi:(p:Int) < (q:Int):=by omega
   have HH:=hdq (And.intro h1 (And.intro h2 (And.intro h3 hpq)))
   obtain ⟨h,hh⟩:∃ h,h = (p + q) / 2:=⟨_,rfl⟩
   have e0:IntKind.i64.wrap ((p:Int) + (q:Int)) = (p:Int) + (q:Int):=by have:=HL.out; rw [IntKind.wrap_i64]; omega
   have e1:IntKind.u64.wrap ((p:Int) + (q:Int)) = (p:Int) + (q:Int):=by have:=HL.out; rw [IntKind.wrap_u64]; omega
   have e2:((p:Int) + (q:Int)) / 2 = (h:Int):=by omega
   have e3:IntKind.i64.wrap (h:Int) = (h:Int):=by have:=HL.out; rw [IntKind.wrap_i64]; omega
   have hlt:h < l.length:=by omega
   have hk1:(0:Int)≤(h:Int):=by omega
   have hk2:(h:Int) < (l.length:Int):=by omega
   have HQ:=hdq (And.intro hh hlt)
   obtain ⟨bl,off,rfl,hcells⟩:∃ bl off,a = some ⟨bl,off,none⟩∧∀ i,i < l.length→w.rangeAt bl (off + i * 4) (ac (l.getD i ac0)):=by
    rcases HE.out with h | h
    ·exact absurd hlt (by rw [h]; simp)
    ·exact h
   have HLT:=hdq (HP.out.2.1 h)
   have HGE:=hdq (fun hi=>HP.out.2.2 h hi hlt)
   have RX:=zah (hcells h hlt) HBB.out
   generalize l.getD h ac0 = x at *
   have c0:wr.cell? ⟨bl,off + h * 4,none⟩ = some (.int .u32 (x.code:Int)):=RX 0 _ rfl
   have c1:wr.cell? ⟨bl,off + h * 4 + 1,none⟩ = some (.string x.name):=RX 1 _ rfl
   have c2:wr.cell? ⟨bl,off + h * 4 + 2,none⟩ = some (.int .u8 (x.kind:Int)):=RX 2 _ rfl
   have c3:wr.cell? ⟨bl,off + h * 4 + 3,none⟩ = some (.int .u32 (x.par:Int)):=RX 3 _ rfl
   clear h1 h2 h3 hpq hh hlt hcells RX
   go_wp2_with fail
   refine (zjj x n wr).mono ?_
   rintro _ w1 ⟨rfl,hb1⟩
   have HB1:=hdq (zab HBB.out hb1)
   clear hb1 c0 c1 c2 c3
   by_cases hc:x.code < n
   ·have hi:h < i:=by
     by_cases c:h < i
     ·exact c
     ·have:=HGE.out (by omega)
      omega
    rw [show x.cmp n = -1 by unfold Ac.cmp; rw [if_pos hc]]
    have ev:IntKind.i64.wrap ((h:Int) + 1) = ((h + 1:Nat):Int):=by have:=HL.out; have:=HQ.out; rw [IntKind.wrap_i64]; omega
    clear hc
    go_wp2_with fail
    have:=HH.out
    have:=HQ.out
    exact ⟨⟨h + 1,q,by push_cast; rfl,rfl,by omega,by omega,by omega,HB1.out⟩,by simp [intOf]; omega⟩
   ·have hi:i≤h:=by
     by_cases c:i≤h
     ·exact c
     ·exact absurd (HLT.out (by omega)) hc
    have hneg:¬ x.cmp n < 0:=by unfold Ac.cmp; rw [if_neg hc]; split <;> omega
    generalize x.cmp n = cm at *
    clear hc
    go_wp2_with fail
    have:=HH.out
    have:=HQ.out
    exact ⟨⟨p,h,rfl,rfl,by omega,by omega,by omega,HB1.out⟩,by simp [intOf]; omega⟩
  ·obtain rfl:p = i:=by omega
   obtain rfl:q = p:=by omega
   have hqq:¬ ((q:Int) < (q:Int)):=by omega
   by_cases hlt:q < l.length
   ·have hk1:(0:Int)≤(q:Int):=by omega
    have hk2:(q:Int) < (l.length:Int):=by omega
    obtain ⟨bl,off,rfl,hcells⟩:∃ bl off,a = some ⟨bl,off,none⟩∧∀ i,i < l.length→w.rangeAt bl (off + i * 4) (ac (l.getD i ac0)):=by
     rcases HE.out with h | h
     ·exact absurd hlt (by rw [h]; simp)
     ·exact h
    have HQL:=hdq hlt
    have HGE:=hdq (HP.out.2.2 q (by omega) hlt)
    have RX:=zah (hcells q hlt) HBB.out
    obtain ⟨x,hx⟩:∃ x,x = l.getD q ac0:=⟨_,rfl⟩
    rw [← hx] at HGE RX
    have HX:=hdq hx
    clear hx
    have c0:wr.cell? ⟨bl,off + q * 4,none⟩ = some (.int .u32 (x.code:Int)):=RX 0 _ rfl
    have c1:wr.cell? ⟨bl,off + q * 4 + 1,none⟩ = some (.string x.name):=RX 1 _ rfl
    have c2:wr.cell? ⟨bl,off + q * 4 + 2,none⟩ = some (.int .u8 (x.kind:Int)):=RX 2 _ rfl
    have c3:wr.cell? ⟨bl,off + q * 4 + 3,none⟩ = some (.int .u32 (x.par:Int)):=RX 3 _ rfl
    clear h1 h2 h3 hpq hlt hcells RX
    go_wp2_with fail
    refine (zjj x n wr).mono ?_
    rintro _ w1 ⟨rfl,hb1⟩
    have HB1:=hdq (zab HBB.out hb1)
    have hz:Hid ((x.cmp n == 0) = decide (x.code = n)):=hdq (by
     have:=HGE.out
     unfold Ac.cmp
     by_cases c:x.code = n
     ·rw [if_neg (by omega),if_neg (by omega),decide_eq_true c]; rfl
     ·rw [if_neg (by omega),if_pos (by omega),decide_eq_false c]; rfl)
    clear hb1 c0 c1 c2 c3
    generalize x.cmp n = cm at *
    go_wp2_with fail
    refine bodyPost_ret (v:=.tuple #[.int .i64 (q:Int),.bool (cm == 0)]) (by simp [results,Tryz.results135,go_sem]) rfl ⟨?_,HB1.out⟩
    rw [hz.out,decide_eq_true HQL.out,Bool.true_and,← HX.out]
   ·have hk2:¬ (q:Int) < (l.length:Int):=by omega
    have HQL:=hdq hlt
    clear hlt
    go_wp2_with fail
    refine bodyPost_ret (v:=.tuple #[.int .i64 (q:Int),.bool false]) (by simp [results,Tryz.results135,go_sem]) rfl ⟨?_,HBB.out⟩
    rw [decide_eq_false HQL.out,Bool.false_and]
theorem zmp (a:Option Addr) (cap:Nat) (l:List Ac) (n i:Nat) (w:World) (hE:ElsAt ac 4 ac0 w a l) (hl:l.length≤1000000) (hp:PosOf l n i) :
  Calls Tryz.prog 93 #[.slice a l.length cap,.int .u32 (n:Int)] w fun e w' =>
   e = .returned (.tuple #[.int .i64 (i:Int),.bool (decide (i < l.length) && decide ((l.getD i ac0).code = n))])∧Below w.heap.size w w':=by
 have HS:=hdq (znj a cap l n i w hE hl hp)
 generalize (decide (i < l.length) && decide ((l.getD i ac0).code = n)) = ok at *
 clear hE hl hp
 go_enter Tryz.func93,Tryz.ntmps93
 go_wp2_with fail
 refine HS.out.mono ?_
 rintro _ w1 ⟨rfl,hb⟩
 go_wp2
 refine bodyPost_ret (v:=.tuple #[.int .i64 (i:Int),.bool ok]) (by simp [results,Tryz.results93,go_sem]) rfl ⟨rfl,hb⟩
def getC (l:List Ac) (n:Nat):Option Ac:=l.find? fun x=>x.code == n
def AcRise (l:List Ac):Prop:=∀ i j,i < j→j < l.length→(l.getD i ac0).code < (l.getD j ac0).code
theorem zqa (l:List Ac) (n:Nat) (hr:AcRise l):∃ i,PosOf l n i:=by
 have go:∀ (m k:Nat),k + m = l.length→(∀ t,t < k→(l.getD t ac0).code < n)→∃ i,PosOf l n i:=fun m=>by
  induction m with
  | zero=>exact fun k hk h=>⟨k,by omega,h,fun t h1 h2=>by omega⟩
  | succ m ih =>
   intro k hk h
   by_cases c:(l.getD k ac0).code < n
   ·exact ih (k + 1) (by omega) (fun t ht=>by
     by_cases e:t = k
     ·rw [e]; exact c
     ·exact h t (by omega))
   ·exact ⟨k,by omega,h,fun t h1 h2=>by
     by_cases e:t = k
     ·rw [e]; omega
     ·have:=hr k t (by omega) h2
      omega⟩
 exact go l.length 0 (by omega) (fun t ht=>by omega)
theorem zuf (l:List Ac) (n i:Nat) (hr:AcRise l) (hp:PosOf l n i):getC l n = if i < l.length∧(l.getD i ac0).code = n then some (l.getD i ac0) else none:=by
 unfold getC
 have hget:∀ t (h:t < l.length),l[t] = l.getD t ac0:=fun t h=>by rw [List.getD_eq_getElem?_getD,List.getElem?_eq_getElem h]; rfl
 by_cases c:i < l.length∧(l.getD i ac0).code = n
 ·rw [if_pos c,← hget i c.1]
  rw [List.find?_eq_some_iff_getElem]
  refine ⟨by rw [hget i c.1]; simpa using c.2,i,c.1,rfl,fun j hj=>?_⟩
  have:=hp.2.1 j hj
  rw [← hget j (by omega)] at this
  have:¬ l[j].code = n:=by omega
  simpa using this
 ·rw [if_neg c,List.find?_eq_none]
  intro x hx
  obtain ⟨t,ht,rfl⟩:=List.getElem_of_mem hx
  rw [hget t ht]
  intro e
  have e:(l.getD t ac0).code = n:=by simpa using e
  by_cases h1:t < i
  ·have:=hp.2.1 t h1; omega
  ·have h2:=hp.2.2 t (by omega) ht
   have:i < l.length:=by omega
   by_cases h3:t = i
   ·exact c ⟨this,by rw [← h3]; exact e⟩
   ·have:=hr i t (by omega) ht
    have:=hp.2.2 i (by omega) (by omega)
    omega
set_option maxHeartbeats 1000000 in
theorem zde (a:Option Addr) (cap:Nat) (l:List Ac) (n:Nat) (w:World) (hE:ElsAt ac 4 ac0 w a l) (hl:l.length≤1000000) (hr:AcRise l) :
  Calls Tryz.prog 55 #[.slice a l.length cap,.int .u32 (n:Int)] w fun e w' =>
   e = .returned (.tuple #[.agg (ac ((getC l n).getD ac0)).toArray,.bool (getC l n).isSome])∧Below w.heap.size w w':=by
 obtain ⟨i,hp⟩:=zqa l n hr
 have HF:=hdq fun W (hb:Below w.heap.size w W)=>zmp a cap l n i W (hE.below hb) hl hp
 have HC:=hdq (zuf l n i hr hp)
 have HE:=hdq hE
 have HL:=hdq hl
 by_cases c:i < l.length∧(l.getD i ac0).code = n
 ·rw [HC.out,if_pos c]
  obtain ⟨bl,off,rfl,hcells⟩:∃ bl off,a = some ⟨bl,off,none⟩∧∀ i,i < l.length→w.rangeAt bl (off + i * 4) (ac (l.getD i ac0)):=by
   rcases HE.out with h | h
   ·exact absurd c.1 (by rw [h]; simp)
   ·exact h
  have RX:=hcells i c.1
  have HF2:Hid (∀ W,Below w.heap.size w W→Calls Tryz.prog 93 #[.slice (some ⟨bl,off,none⟩) l.length cap,.int .u32 (n:Int)] W fun e w'=>e = .returned (.tuple #[.int .i64 (i:Int),.bool true])∧Below W.heap.size W w'):=hdq fun W hb=>by
   have h:=HF.out W hb
   rwa [decide_eq_true c.1,decide_eq_true c.2] at h
  clear HF
  have hk1:(0:Int)≤(i:Int):=by omega
  have hk2:(i:Int) < (l.length:Int):=by omega
  show Calls _ _ _ _ fun e w'=>e = .returned (.tuple #[.agg (ac (l.getD i ac0)).toArray,.bool true])∧_
  generalize l.getD i ac0 = x at *
  unfold ac at RX ⊢
  have hB:=hdq (zaa (Below.refl _ w) (.cells (ac ac0).toArray 61))
  clear hp HC HE hcells hE hl hr c
  go_enter Tryz.func55,Tryz.ntmps55
  go_wp2_with fail
  refine (HF2.out _ hB.out).mono ?_
  rintro _ w1 ⟨rfl,hb⟩
  have RG:=(Row.new w (ac ac0).toArray 61).below hb
  have RY:=zah (zah RX hB.out) hb
  have c0:w1.cell? ⟨bl,off + i * 4,none⟩ = some (.int .u32 (x.code:Int)):=RY 0 _ rfl
  have c1:w1.cell? ⟨bl,off + i * 4 + 1,none⟩ = some (.string x.name):=RY 1 _ rfl
  have c2:w1.cell? ⟨bl,off + i * 4 + 2,none⟩ = some (.int .u8 (x.kind:Int)):=RY 2 _ rfl
  have c3:w1.cell? ⟨bl,off + i * 4 + 3,none⟩ = some (.int .u32 (x.par:Int)):=RY 3 _ rfl
  have HBB:=hdq (zab hB.out hb)
  obtain ⟨g,hg⟩:∃ g,g = w.heap.size:=⟨_,rfl⟩
  rw [← hg] at RG ⊢
  have HGG:=hdq hg
  clear hb RX RY HF2 hB hg
  go_wp2_with (first | (refine zad rfl 61 _ _ rfl g (ac x).toArray rfl rfl RG (zcm x) rfl (zjx x) rfl ?_; intro w2 RZ S2))
  have d0:w2.cell? ⟨g,0,none⟩ = some (.int .u32 (x.code:Int)):=RZ.cell 0
  have d1:w2.cell? ⟨g,1,none⟩ = some (.string x.name):=RZ.cell 1
  have d2:w2.cell? ⟨g,2,none⟩ = some (.int .u8 (x.kind:Int)):=RZ.cell 2
  have d3:w2.cell? ⟨g,3,none⟩ = some (.int .u32 (x.par:Int)):=RZ.cell 3
  refine bodyPost_ret (v:=.tuple #[.agg (ac x).toArray,.bool true]) (by simp [results,Tryz.results55,go_sem,ac,d0,d1,d2,d3]) rfl ⟨rfl,S2.below HBB.out (by rw [HGG.out]; exact Nat.le_refl _)⟩
 ·rw [HC.out,if_neg c]
  have HF2:Hid (∀ W,Below w.heap.size w W→Calls Tryz.prog 93 #[.slice a l.length cap,.int .u32 (n:Int)] W fun e w'=>e = .returned (.tuple #[.int .i64 (i:Int),.bool false])∧Below W.heap.size W w'):=hdq fun W hb=>by
   have h:=HF.out W hb
   have e:(decide (i < l.length) && decide ((l.getD i ac0).code = n)) = false:=by rw [← Bool.decide_and,decide_eq_false c]
   rwa [e] at h
  have hB:=hdq (zaa (Below.refl _ w) (.cells (ac ac0).toArray 61))
  clear HF hp HC HE hE hl hr c
  show Calls _ _ _ _ fun e w'=>e = .returned (.tuple #[.agg (ac ac0).toArray,.bool false])∧_
  go_enter Tryz.func55,Tryz.ntmps55
  go_wp2_with fail
  refine (HF2.out _ hB.out).mono ?_
  rintro _ w1 ⟨rfl,hb⟩
  have RG:=(Row.new w (ac ac0).toArray 61).below hb
  have HBB:=hdq (zab hB.out hb)
  obtain ⟨g,hg⟩:∃ g,g = w.heap.size:=⟨_,rfl⟩
  rw [← hg] at RG ⊢
  have HGG:=hdq hg
  clear hb HF2 hB hg
  go_wp2_with (first | (refine zad rfl 61 _ _ rfl g (ac ac0).toArray rfl rfl RG (zcm ac0) rfl (zjx ac0) rfl ?_; intro w2 RZ S2))
  have d0:w2.cell? ⟨g,0,none⟩ = some (.int .u32 0):=RZ.cell 0
  have d1:w2.cell? ⟨g,1,none⟩ = some (.string ByteArray.empty):=RZ.cell 1
  have d2:w2.cell? ⟨g,2,none⟩ = some (.int .u8 0):=RZ.cell 2
  have d3:w2.cell? ⟨g,3,none⟩ = some (.int .u32 0):=RZ.cell 3
  refine bodyPost_ret (v:=.tuple #[.agg (ac ac0).toArray,.bool false]) (by simp [results,Tryz.results55,go_sem,ac,ac0,d0,d1,d2,d3]) rfl ⟨rfl,S2.below HBB.out (by rw [HGG.out]; exact Nat.le_refl _)⟩
end Go.Proofs.YtlpdfglbdijkoaaGreatDoor