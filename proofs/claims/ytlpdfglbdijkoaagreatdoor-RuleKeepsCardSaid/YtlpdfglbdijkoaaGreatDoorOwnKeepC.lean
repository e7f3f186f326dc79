/-
  Own texts, several in one (KeepC, NameC, ChkC, UnitN).
-/
import Derived.Test.YtlpdfglbdijkoaaGreatDoorOwnIn15b
import Derived.Test.YtlpdfglbdijkoaaGreatDoorOwnGet6
import Derived.Lib.OthersKept
import Derived.Laws.RangeAny
import Derived.Deep.QuietTactic
import Derived.BigQuiet
import Derived.Test.YtlpdfglbdijkoaaGreatDoorMrg12
import Derived.Shelf.SlicesE.DeleteFunc
import Derived.Lib.OwnBridge
namespace Go.Proofs.YtlpdfglbdijkoaaGreatDoor
open Go.RowKit
set_option linter.unusedVariables false
set_option linter.unusedSimpArgs false
theorem zes {α:Type} (l:List α) (d:α) (k:Nat) (hk:k < l.length):l.take (k + 1) = l.take k ++ [l.getD k d]:=by
 rw [List.take_succ_eq_append_getElem hk,List.getD_eq_getElem?_getD,List.getElem?_eq_getElem hk]; rfl
theorem zdq {w:World} {a:Option Addr} {l:List Ac} {k:Nat} (hE:ElsAt ac 4 ac0 w a l) (hlt:k < l.length):∃ b off,a = some ⟨b,off,none⟩∧∀ i,i < l.length→w.rangeAt b (off + i * 4) (ac (l.getD i ac0)):=by
 rcases hE with h | ⟨b,off,h1,h2⟩
 ·rw [h] at hlt; simp at hlt
 ·exact ⟨b,off,h1,h2⟩
set_option maxHeartbeats 4000000 in
set_option maxRecDepth 100000 in
theorem zdv (a:Option Addr) (cap:Nat) (l:List Ac) (n:Nat) (w:World) (hE:ElsAt ac 4 ac0 w a l) (hl:l.length≤100000) :
  Calls Tryz.prog 94 #[.slice a l.length cap,.int .u32 (n:Int)] w fun e w'=>∃ v',e = .returned v'∧w'.ownsRow w.heap.size 61 4 v' (dropC l n).length ((dropC l n).flatMap ac)∧Below w.heap.size w w':=by
 have HE:=hdq hE
 have HL:=hdq hl
 clear hE hl
 go_enter Tryz.func94,Tryz.ntmps94
 go_wp2_with fail
 go_loopw [5,10] (fun sv iv wr=>∃ k:Nat,k≤l.length∧iv = .int .i64 (k:Int)∧wr.ownsRow w.heap.size 61 4 sv (dropC (l.take k) n).length ((dropC (l.take k) n).flatMap ac)∧Below w.heap.size w wr) (fun _ iv _=>l.length - (intOf iv).toNat)
 case atStart=>exact ⟨0,by omega,rfl,⟨rfl,.inl ⟨rfl,rfl⟩⟩,Below.refl _ _⟩
 case round =>
  obtain ⟨k,hk,rfl,hown,BB⟩:=hrel
  have HOW:=hdq hown
  have HB:=hdq BB
  have hln:(dropC (l.take k) n).length≤k:=by have:=zdh (l.take k) n; rw [List.length_take] at this; omega
  clear hown BB
  by_cases hlt:k < l.length
  ·have i0:(0:Int)≤(k:Int):=by omega
   have i1:(k:Int) < (l.length:Int):=by omega
   obtain ⟨b,off,rfl,hcc⟩:=zdq HE.out hlt
   have ck:=zah (hcc k hlt) HB.out
   have hst:dropC (l.take (k + 1)) n = if (l.getD k ac0).code = n then dropC (l.take k) n else dropC (l.take k) n ++ [l.getD k ac0]:=by
    unfold dropC
    rw [zes l ac0 k hlt,List.filter_append]
    by_cases c:(l.getD k ac0).code = n
    ·rw [if_pos c,List.filter_cons_of_neg (by simpa using c),List.filter_nil,List.append_nil]
    ·rw [if_neg c,List.filter_cons_of_pos (by simpa using c),List.filter_nil]
   obtain ⟨x,hx⟩:∃ x,x = l.getD k ac0:=⟨_,rfl⟩
   rw [← hx] at ck hst
   obtain ⟨out,hout⟩:∃ o,o = dropC (l.take k) n:=⟨_,rfl⟩
   rw [← hout] at HOW hst hln
   have HST:=hdq hst
   have HLT:=hdq hlt
   have HLN:=hdq hln
   have e5:IntKind.i64.wrap ((k:Int) + 1) = (k:Int) + 1:=by rw [IntKind.wrap_i64]; have:=HL.out; omega
   have c0:wr.cell? ⟨b,off + k * 4,none⟩ = some (.int .u32 (x.code:Int)):=ck 0 _ rfl
   have c1:wr.cell? ⟨b,off + k * 4 + 1,none⟩ = some (.string x.name):=ck 1 _ rfl
   have c2:wr.cell? ⟨b,off + k * 4 + 2,none⟩ = some (.int .u8 (x.kind:Int)):=ck 2 _ rfl
   have c3:wr.cell? ⟨b,off + k * 4 + 3,none⟩ = some (.int .u32 (x.par:Int)):=ck 3 _ rfl
   clear hcc ck hx hlt hk hst hout hln
   by_cases hc:x.code = n
   ·have q1:((x.code:Int) == (n:Int)) = true:=by simp [hc]
    have HC:=hdq hc
    clear hc
    go_wp2_with fail
    refine ⟨⟨k + 1,by have:=HLT.out; omega,by simp,?_,zaa HB.out _⟩,by have:=HLT.out; simp [intOf]; omega⟩
    rw [HST.out,if_pos HC.out]
    exact zan HOW.out _
   ·have q1:((x.code:Int) == (n:Int)) = false:=beq_eq_false_iff_ne.2 (by omega)
    have HC:=hdq hc
    have R0:=Row.new wr (ac x).toArray 61
    have B0:=zaa HB.out (.cells (ac x).toArray 61)
    have O0:=zan HOW.out (.cells (ac x).toArray 61)
    have z0:(wr.alloc (.cells (ac x).toArray 61)).heap.size = wr.heap.size + 1:=by simp
    have HR0:=hdq (show Row (wr.alloc (.cells #[.int .u32 (x.code:Int),.string x.name,.int .u8 (x.kind:Int),.int .u32 (x.par:Int)] 61)) wr.heap.size #[.int .u32 (x.code:Int),.string x.name,.int .u8 (x.kind:Int),.int .u32 (x.par:Int)] 61 from R0)
    obtain ⟨sp,sc,hsv⟩:=zaj HOW.out
    obtain ⟨v6,w6,hr6,ho6,hb6,_⟩:=zdk ((wr.alloc (.cells (ac x).toArray 61)).alloc (.cells (ac x).toArray 61)) w.heap.size 34 u5 out.length out (zan O0 _) (wr.heap.size + 1) x (Row.new' _ _ _ z0.symm) (by have:=HLN.out; have:=HL.out; have:=HLT.out; omega) (by have:=B0.size; simp at this ⊢; omega)
    have HR6:=hdq hr6
    have HO6:=hdq ho6
    have HB6:=hdq ((zaa B0 (.cells (ac x).toArray 61)).trans hb6)
    clear hc hr6 ho6 hb6 R0 B0 O0 z0
    subst hsv
    go_wp2_with (first | (at_builtin; refine zbn rfl (zao _ _ _ _ rfl rfl rfl HR6.out) ?_) | (refine zaq rfl rfl 61 _ rfl wr.heap.size rfl HR0.out _ Tryz.underlying61 rfl (zcm x) ?_))
    refine ⟨⟨k + 1,by have:=HLT.out; omega,by simp,?_,HB6.out⟩,by have:=HLT.out; simp [intOf]; omega⟩
    rw [HST.out,if_neg HC.out,List.length_append]
    exact HO6.out
  ·have i1:¬ (k:Int) < (l.length:Int):=by omega
   obtain rfl:k = l.length:=by omega
   rw [List.take_length] at HOW hln
   clear hlt hk hln
   go_wp2_with fail
   go_ret
   exact ⟨_,rfl,HOW.out,HB.out⟩
theorem zri (l:List Ac) (n:Nat):(kidsC l n).length≤l.length:=by unfold kidsC; rw [List.length_map]; exact List.length_filter_le _ _
set_option maxHeartbeats 4000000 in
set_option maxRecDepth 100000 in
theorem zjc (a:Option Addr) (cap:Nat) (l:List Ac) (n:Nat) (w:World) (hE:ElsAt ac 4 ac0 w a l) (hl:l.length≤100000) :
  Calls Tryz.prog 97 #[.slice a l.length cap,.int .u32 (n:Int)] w fun e w'=>∃ v',e = .returned v'∧w'.ownsRow w.heap.size 44 1 v' (kidsC l n).length (uv (kidsC l n))∧Below w.heap.size w w':=by
 have HE:=hdq hE
 have HL:=hdq hl
 clear hE hl
 go_enter Tryz.func97,Tryz.ntmps97
 go_wp2_with fail
 go_loopw [5,10] (fun sv iv wr=>∃ k:Nat,k≤l.length∧iv = .int .i64 (k:Int)∧wr.ownsRow w.heap.size 44 1 sv (kidsC (l.take k) n).length (uv (kidsC (l.take k) n))∧Below w.heap.size w wr) (fun _ iv _=>l.length - (intOf iv).toNat)
 case atStart=>exact ⟨0,by omega,rfl,⟨rfl,.inl ⟨rfl,rfl⟩⟩,Below.refl _ _⟩
 case round =>
  obtain ⟨k,hk,rfl,hown,BB⟩:=hrel
  have HOW:=hdq hown
  have HB:=hdq BB
  have hln:(kidsC (l.take k) n).length≤k:=by have:=zri (l.take k) n; rw [List.length_take] at this; omega
  clear hown BB
  by_cases hlt:k < l.length
  ·have i0:(0:Int)≤(k:Int):=by omega
   have i1:(k:Int) < (l.length:Int):=by omega
   obtain ⟨b,off,rfl,hcc⟩:=zdq HE.out hlt
   have ck:=zah (hcc k hlt) HB.out
   have hst:kidsC (l.take (k + 1)) n = if (l.getD k ac0).par = n then kidsC (l.take k) n ++ [(l.getD k ac0).code] else kidsC (l.take k) n:=by
    unfold kidsC
    rw [zes l ac0 k hlt,List.filter_append,List.map_append]
    by_cases c:(l.getD k ac0).par = n
    ·rw [if_pos c,List.filter_cons_of_pos (by simpa using c),List.filter_nil]; rfl
    ·rw [if_neg c,List.filter_cons_of_neg (by simpa using c),List.filter_nil,List.map_nil,List.append_nil]
   obtain ⟨x,hx⟩:∃ x,x = l.getD k ac0:=⟨_,rfl⟩
   rw [← hx] at ck hst
   obtain ⟨out,hout⟩:∃ o,o = kidsC (l.take k) n:=⟨_,rfl⟩
   rw [← hout] at HOW hst hln
   have HST:=hdq hst
   have HLT:=hdq hlt
   have HLN:=hdq hln
   have e5:IntKind.i64.wrap ((k:Int) + 1) = (k:Int) + 1:=by rw [IntKind.wrap_i64]; have:=HL.out; omega
   have c0:wr.cell? ⟨b,off + k * 4,none⟩ = some (.int .u32 (x.code:Int)):=ck 0 _ rfl
   have c1:wr.cell? ⟨b,off + k * 4 + 1,none⟩ = some (.string x.name):=ck 1 _ rfl
   have c2:wr.cell? ⟨b,off + k * 4 + 2,none⟩ = some (.int .u8 (x.kind:Int)):=ck 2 _ rfl
   have c3:wr.cell? ⟨b,off + k * 4 + 3,none⟩ = some (.int .u32 (x.par:Int)):=ck 3 _ rfl
   clear hcc ck hx hlt hk hst hout hln
   by_cases hc:x.par = n
   ·have q1:((x.par:Int) == (n:Int)) = true:=by simp [hc]
    have HC:=hdq hc
    have B0:=zaa HB.out (.cells (ac x).toArray 61)
    have O0:=zan HOW.out (.cells (ac x).toArray 61)
    have z0:(wr.alloc (.cells (ac x).toArray 61)).heap.size = wr.heap.size + 1:=by simp
    obtain ⟨sp,sc,hsv⟩:=zaj HOW.out
    obtain ⟨v6,w6,hr6,ho6,hb6,_⟩:=zjv ((wr.alloc (.cells (ac x).toArray 61)).alloc (.cells #[.int .u32 (x.code:Int)] 44)) w.heap.size 145 u5 out.length out (zan O0 _) (wr.heap.size + 1) x.code (Row.new' _ _ _ z0.symm) (by have:=HLN.out; have:=HL.out; have:=HLT.out; omega) (by have:=B0.size; simp at this ⊢; omega)
    have HR6:=hdq hr6
    have HO6:=hdq ho6
    have HB6:=hdq ((zaa B0 (.cells #[.int .u32 (x.code:Int)] 44)).trans hb6)
    clear hc hr6 ho6 hb6 B0 O0 z0
    subst hsv
    go_wp2_with (first | (at_builtin; refine zbn rfl (zao _ _ _ _ rfl rfl rfl HR6.out) ?_))
    refine ⟨⟨k + 1,by have:=HLT.out; omega,by simp,?_,HB6.out⟩,by have:=HLT.out; simp [intOf]; omega⟩
    rw [HST.out,if_pos HC.out,List.length_append]
    exact HO6.out
   ·have q1:((x.par:Int) == (n:Int)) = false:=beq_eq_false_iff_ne.2 (by omega)
    have HC:=hdq hc
    clear hc
    go_wp2_with fail
    refine ⟨⟨k + 1,by have:=HLT.out; omega,by simp,?_,zaa HB.out _⟩,by have:=HLT.out; simp [intOf]; omega⟩
    rw [HST.out,if_neg HC.out]
    exact zan HOW.out _
  ·have i1:¬ (k:Int) < (l.length:Int):=by omega
   obtain rfl:k = l.length:=by omega
   rw [List.take_length] at HOW hln
   clear hlt hk hln
   go_wp2_with fail
   go_ret
   exact ⟨_,rfl,HOW.out,HB.out⟩
theorem zam {P:Program} {ops:Array Oper} {rest:List Oper} {o:Oper} {a:Act} {Q:Exit→Act→World→Prop} {W:World} (hgd:o.guard = none) (T:TypeId) (x y:Operand) (ho:o.op = .store T x y) (g k:Nat) (v:Value) (hx:a.eval x = .pointer (some ⟨g,k,none⟩)) (hy:a.eval y = v) (hv:v.cells = #[v])
  {t:TypeId} {old:Array Value} (R:Row W g old t) (hi:(P.info? T).map (·.size) = some 1) (hold:k < old.size) (h1:v.oneCell' = true) (hN:o.dst = none)
  (h:wpList P ops Q rest a (W.setCells g k [v])):wpList P ops Q (o :: rest) a W:=by
 refine wpList_plain hgd fun K hK=>?_
 have hst:=run_storeCells_cells (P:=P) g k [v] 0 W (fun j hj=>by rw [R.cell,Array.getElem?_eq_getElem (by simp at hj; omega)]; rfl) (fun j hj=>frozen_of_row W g _ old t R) (fun u hu=>by simp at hu; rw [hu]; exact h1)
 have hsv:(storeVar T ⟨g,k,none⟩ v).run P W = .ok () (W.setCells g k [v]):=by
  cases hq:P.info? T with
  | none=>simp [hq] at hi
  | some i =>
   have hs:i.size = 1:=by simpa [hq] using hi
   simp [storeVar,sizeOf,typeInfo,hq,hv,hs]
   simpa using hst
 unfold Oper.wp execOp
 simp only [ho,hx,hy,Instr.storeAt,Instr.sureAddr,Sem.run_bind,Sem.run_pure,Result.andThen_ok,hsv]
 have hK2:K (a.put o.dst undef) (W.setCells g k [v]):=by rw [hN]; exact hK _ _ h
 exact hK2
set_option maxHeartbeats 4000000 in
set_option maxRecDepth 100000 in
theorem zon (a:Option Addr) (cap:Nat) (l:List Ac) (w:World) (hE:ElsAt ac 4 ac0 w a l) (hl:l.length≤100000) :
  Calls Tryz.prog 100 #[.slice a l.length cap] w fun e w'=>∃ v',e = .returned v'∧w'.ownsRow w.heap.size 61 4 v' l.length (l.flatMap ac)∧Below w.heap.size w w':=by
 have q22:∀ (w:World) (a:Option Addr) (n c n' c':Nat),(binOp .eql 34 (.slice a n c) (.slice none n' c')).run Tryz.prog w = .ok (.bool a.isNone) w:=fun w a n c n' c'=>Lib.run_eql_slice_nil w _ _ a n c n' c' Tryz.underlying34
 cases a with
 | none =>
  have h0:l = []:=by
   rcases hE with h | ⟨b,off,h1,_⟩
   ·exact h
   ·cases h1
  subst h0
  clear hE hl
  go_enter Tryz.func100,Tryz.ntmps100
  go_wp2
  go_ret
  exact ⟨.slice none 0 0,rfl,⟨rfl,.inl ⟨rfl,rfl⟩⟩,Below.refl _ _⟩
 | some ad =>
  obtain ⟨i,hi,h1,h2,h3⟩:=zhh
  have hz:=World.ownsRow_made (base:=w.heap.size) (e:=61) (size:=4) w #[] 0 (Nat.le_refl _) (Nat.zero_le _) (by simp)
  have hE1:=hE.below (zaa (Below.refl _ w) (.cells #[] 61))
  obtain ⟨v',w',hr,k2,k3,k4,k5⟩:=run_append_own_at (P:=Tryz.prog) (w.alloc (.cells #[] 61)) w.heap.size 34 34 61 i (.agg (ac ac0).toArray) 4 32 Tryz.underlying34 hi h1 h2 h3 rfl (by omega) (.slice (some ⟨w.heap.size,0,none⟩) 0 0) 0 [] hz ad l.length cap (l.flatMap ac) (zbd l) (fun j u hj=>by
   rcases hE1 with h | ⟨b,off,h1,h2⟩
   ·rw [h] at hj; simp at hj
   ·obtain rfl:=Option.some.inj h1
    rw [show (⟨b,off,none⟩:Addr).add j = ⟨b,off + j,none⟩ by simp [Addr.add]]
    exact zmq h2 j u hj) (zlg l) (by unfold maxLen; omega) (by omega) (by simp)
  have HR:=hdq hr
  have HO:=hdq k2
  have HB:=hdq ((zaa (Below.refl _ w) (.cells #[] 61)).trans ((Below.refl w.heap.size _).grown k3 (by simp) (fun k hk=>(zbc hz hk).1)))
  clear hr k2 k3 k4 k5 hz hE hE1 hl hi h1 h2 h3
  go_enter Tryz.func100,Tryz.ntmps100
  go_wp2_with (first | (at_builtin; refine zbn rfl (zao _ _ _ _ rfl rfl rfl HR.out) ?_))
  go_ret
  refine ⟨v',rfl,?_,HB.out⟩
  have:=HO.out
  rw [Nat.zero_add] at this
  exact this
theorem znu (l:List Ac) (f t k:Nat) (hk:k < l.length):(moveC (l.take k) f t ++ l.drop k).flatMap ac = (moveC (l.take k) f t).flatMap ac ++ (ac (l.getD k ac0) ++ (l.drop (k + 1)).flatMap ac)∧moveC (l.take (k + 1)) f t ++ l.drop (k + 1) = moveC (l.take k) f t ++ (if (l.getD k ac0).par = f then { l.getD k ac0 with par:=t } else l.getD k ac0) :: l.drop (k + 1):=by
 have e:l.drop k = l.getD k ac0 :: l.drop (k + 1):=by
  rw [List.drop_eq_getElem_cons hk,List.getD_eq_getElem?_getD,List.getElem?_eq_getElem hk]; rfl
 refine ⟨by rw [e,List.flatMap_append,List.flatMap_cons],?_⟩
 rw [zes l ac0 k hk]
 unfold moveC
 rw [List.map_append,List.append_assoc]
 rfl
set_option maxHeartbeats 4000000 in
set_option maxRecDepth 100000 in
theorem zqu (a:Option Addr) (cap:Nat) (l:List Ac) (f t:Nat) (w:World) (hE:ElsAt ac 4 ac0 w a l) (hl:l.length≤100000) :
  Calls Tryz.prog 95 #[.slice a l.length cap,.int .u32 (f:Int),.int .u32 (t:Int)] w fun e w'=>∃ v',e = .returned v'∧w'.ownsRow w.heap.size 61 4 v' l.length ((moveC l f t).flatMap ac)∧Below w.heap.size w w':=by
 have HC:=hdq (zon a cap l w hE hl)
 have HL:=hdq hl
 clear hE hl
 go_enter Tryz.func95,Tryz.ntmps95
 go_wp2_with fail
 refine HC.out.mono ?_
 rintro _ w1 ⟨v,rfl,ho,hb⟩
 have HO:=hdq ho
 have HB1:=hdq hb
 obtain ⟨sp,sc,hsv⟩:=zaj ho
 subst hsv
 clear ho hb HC
 go_wp2_with fail
 go_loopw [13] (fun iv wr=>∃ k:Nat,k≤l.length∧iv = .int .i64 (k:Int)∧wr.ownsRow w.heap.size 61 4 (.slice sp l.length sc) l.length ((moveC (l.take k) f t ++ l.drop k).flatMap ac)∧Below w.heap.size w wr) (fun iv _=>l.length - (intOf iv).toNat)
 case atStart=>exact ⟨0,by omega,rfl,by simpa [moveC] using HO.out,HB1.out⟩
 case round =>
  obtain ⟨k,hk,rfl,hown,BB⟩:=hrel
  have HOW:=hdq hown
  have HB:=hdq BB
  clear hown BB
  by_cases hlt:k < l.length
  ·have i0:(0:Int)≤(k:Int):=by omega
   have i1:(k:Int) < (l.length:Int):=by omega
   have hst:=znu l f t k hlt
   obtain ⟨x,hx⟩:∃ x,x = l.getD k ac0:=⟨_,rfl⟩
   rw [← hx] at hst
   obtain ⟨A,hA⟩:∃ A,A = moveC (l.take k) f t:=⟨_,rfl⟩
   rw [← hA] at hst
   have hAl:A.length = k:=by rw [hA,zfu,List.length_take]; omega
   obtain ⟨hn,h2⟩:=HOW.out
   rcases h2 with ⟨_,h0⟩ | ⟨g,c2,cur,e1,hg,hh,hc,hm,hs,ht⟩
   ·exact absurd h0 (by omega)
   ·injection e1 with e1 _ e2
    subst e1
    subst e2
    rw [← hA,hst.1] at ht
    have hcell:∀ j v,(ac x)[j]? = some v→cur[k * 4 + j]? = some v:=fun j v hj=>by
     have h:=congrArg (fun t=>t[k * 4 + j]?) ht
     simp only [List.getElem?_take] at h
     have hj4:j < 4:=by
      by_cases c:j < 4
      ·exact c
      ·rw [List.getElem?_eq_none (by show 4≤j; omega)] at hj; cases hj
     rw [if_pos (by omega),List.getElem?_append_right (by rw [zbd,hAl]; omega),zbd,hAl,show k * 4 + j - k * 4 = j by omega,List.getElem?_append_left (by show j < 4; exact hj4),hj] at h
     rw [← h,Array.getElem?_toList]
    have c3:wr.cell? ⟨g,k * 4 + 3,none⟩ = some (.int .u32 (x.par:Int)):=by rw [(show Row wr g cur 61 from hh).cell]; exact hcell 3 _ rfl
    have e5:IntKind.i64.wrap ((k:Int) + 1) = (k:Int) + 1:=by rw [IntKind.wrap_i64]; have:=HL.out; omega
    have HH:=hdq hh
    have HT:=hdq (And.intro ht (And.intro hs (And.intro hg (And.intro hc (And.intro hm hAl)))))
    have HST:=hdq hst.2
    have HLT:=hdq hlt
    clear hh ht hs hg hc hm hAl hst hlt hk hcell hn hx hA
    by_cases hq:x.par = f
    ·have q1:((x.par:Int) == (f:Int)) = true:=by simp [hq]
     have HQ:=hdq hq
     have hks:k * 4 + 3 < cur.size:=by have:=HT.out; have:=HLT.out; omega
     have HKS:=hdq hks
     clear hq hks
     go_wp2_with (first | (refine zam rfl 44 _ _ rfl g (k * 4 + 3) (.int .u32 (t:Int)) rfl rfl rfl HH.out (by kernel_rfl) HKS.out rfl rfl ?_))
     refine ⟨⟨k + 1,by have:=HLT.out; omega,by simp,?_,(zag g _ _ _).below HB.out HT.out.2.2.1⟩,by have:=HLT.out; simp [intOf]; omega⟩
     rw [HST.out,if_pos HQ.out]
     have hT:=HT.out
     refine ⟨?_,.inr ⟨g,sc,_,rfl,hT.2.2.1,Row.setCells _ _ HH.out,hT.2.2.2.1,hT.2.2.2.2.1,by rw [zax]; exact hT.2.1,?_⟩⟩
     ·have hlt:=HLT.out
      rw [zbd,List.length_append,List.length_cons,List.length_drop,hT.2.2.2.2.2]
      omega
     ·show ((cur.setIfInBounds (k * 4 + 3) (.int .u32 (t:Int))).toList.take (l.length * 4)) = _
      rw [Array.toList_setIfInBounds,List.take_set,hT.1,List.set_append_right _ _ (by rw [zbd,hT.2.2.2.2.2]; omega),zbd,hT.2.2.2.2.2,show k * 4 + 3 - k * 4 = 3 by omega,List.set_append_left _ _ (by show 3 < 4; omega),List.flatMap_append,List.flatMap_cons]
      rfl
    ·have q1:((x.par:Int) == (f:Int)) = false:=beq_eq_false_iff_ne.2 (by omega)
     have HQ:=hdq hq
     clear hq
     go_wp2_with fail
     refine ⟨⟨k + 1,by have:=HLT.out; omega,by simp,?_,HB.out⟩,by have:=HLT.out; simp [intOf]; omega⟩
     rw [HST.out,if_neg HQ.out]
     have hT:=HT.out
     refine ⟨?_,.inr ⟨g,sc,_,rfl,hT.2.2.1,HH.out,hT.2.2.2.1,hT.2.2.2.2.1,hT.2.1,?_⟩⟩
     ·have hlt:=HLT.out
      rw [zbd,List.length_append,List.length_cons,List.length_drop,hT.2.2.2.2.2]
      omega
     ·rw [hT.1,List.flatMap_append,List.flatMap_cons]
  ·have i1:¬ (k:Int) < (l.length:Int):=by omega
   obtain rfl:k = l.length:=by omega
   rw [List.take_length,List.drop_length,List.append_nil] at HOW
   clear hlt hk
   go_wp2_with fail
   go_ret
   exact ⟨_,rfl,HOW.out,HB.out⟩
def chN (n:Nat):Bool:=decide ((97≤n∧n≤122)∨(65≤n∧n≤90)∨(48≤n∧n≤57)∨n = 32∨n = 46)
def byteAt (s:ByteArray) (i:Nat):Nat:=(s.data.toList.getD i 0).toNat
def nameOk (s:ByteArray):Bool:=decide (1≤s.size∧s.size≤30∧byteAt s 0 ≠ 32∧byteAt s (s.size - 1) ≠ 32∧∀ i,i < s.size→chN (byteAt s i) = true)
theorem zex (s:ByteArray) (i:Nat) (h:i < s.size):(s[i]'h).toNat = byteAt s i:=by
 unfold byteAt
 have h2:i < s.data.toList.length:=by rw [Array.length_toList]; exact h
 rw [List.getD_eq_getElem?_getD,List.getElem?_eq_getElem h2]
 show _ = (s.data.toList[i]'h2).toNat
 rw [Array.getElem_toList]
 rfl
set_option maxHeartbeats 4000000 in
set_option maxRecDepth 100000 in
theorem zmb (s:ByteArray) (hs:s.size≤1000000000) (w:World):Calls Tryz.prog 18 #[.string s] w fun e w'=>e = .returned (.bool (nameOk s))∧Below w.heap.size w w':=by
 obtain ⟨B,hB⟩:∃ B,B = nameOk s:=⟨_,rfl⟩
 rw [← hB]
 have HB:=hdq hB
 have HS:=hdq hs
 clear hB hs
 have no:∀ (h:¬ (1≤s.size∧s.size≤30∧byteAt s 0 ≠ 32∧byteAt s (s.size - 1) ≠ 32∧∀ i,i < s.size→chN (byteAt s i) = true)),B = false:=fun h=>by rw [HB.out]; exact decide_eq_false h
 have NO:=hdq no
 clear no
 by_cases a1:s.size < 1
 ·have i1:(s.size:Int) < 1:=by omega
  have hB:B = false:=NO.out (by omega)
  subst hB
  clear a1
  go_enter Tryz.func18,Tryz.ntmps18
  go_wp2_with fail
  go_ret
  exact ⟨rfl,Below.refl _ _⟩
 have i1:¬ (s.size:Int) < 1:=by omega
 by_cases a2:30 < s.size
 ·have i2:(30:Int) < (s.size:Int):=by omega
  have hB:B = false:=NO.out (by omega)
  subst hB
  clear a1 a2
  go_enter Tryz.func18,Tryz.ntmps18
  go_wp2_with fail
  go_ret
  exact ⟨rfl,Below.refl _ _⟩
 have i2:¬ (30:Int) < (s.size:Int):=by omega
 have b0:∀ h,(s[0]'h).toNat = byteAt s 0:=fun h=>zex s 0 h
 have j0:(0:Int) < (s.size:Int):=by omega
 have j00:0 < s.size:=by omega
 by_cases a3:byteAt s 0 = 32
 ·have i3:((byteAt s 0:Int) == 32) = true:=by rw [a3]; rfl
  have hB:B = false:=NO.out (by omega)
  subst hB
  clear a1 a2 a3
  go_enter Tryz.func18,Tryz.ntmps18
  go_wp2_with fail
  go_ret
  exact ⟨rfl,Below.refl _ _⟩
 have i3:((byteAt s 0:Int) == 32) = false:=beq_eq_false_iff_ne.2 (by omega)
 obtain ⟨m,hm⟩:∃ m,m = s.size - 1:=⟨_,rfl⟩
 have bm:∀ h,(s[m]'h).toNat = byteAt s m:=fun h=>zex s m h
 have w1:IntKind.i64.wrap ((s.size:Int) - 1) = (m:Int):=by rw [IntKind.wrap_i64]; have:=HS.out; omega
 have jm:(m:Int) < (s.size:Int):=by omega
 have jmm:m < s.size:=by omega
 have jm0:(0:Int)≤(m:Int):=by omega
 by_cases a4:byteAt s m = 32
 ·have i4:((byteAt s m:Int) == 32) = true:=by rw [a4]; rfl
  have hB:B = false:=NO.out (by rw [← hm]; omega)
  subst hB
  clear a1 a2 a3 a4 hm
  go_enter Tryz.func18,Tryz.ntmps18
  go_wp2_with fail
  go_ret
  exact ⟨rfl,Below.refl _ _⟩
 have i4:((byteAt s m:Int) == 32) = false:=beq_eq_false_iff_ne.2 (by omega)
 have yes:(∀ i,i < s.size→chN (byteAt s i) = true)→B = true:=fun h=>by rw [HB.out]; exact decide_eq_true ⟨by omega,by omega,a3,by rw [← hm]; exact a4,h⟩
 have YES:=hdq yes
 clear a1 a2 a3 a4 hm yes
 go_enter Tryz.func18,Tryz.ntmps18
 go_wp2_with fail
 clear i1 i2 b0 j0 j00 i3 bm w1 jm jmm jm0 i4
 obtain ⟨gi,hgi⟩:∃ g,g = w.heap.size:=⟨_,rfl⟩
 have HGI:=hdq hgi
 have B0:=zaa (Below.refl _ w) (.stringIter s 0)
 have hit0:(w.alloc (.stringIter s 0)).heap[gi]? = some (.stringIter s 0):=by rw [hgi]; show (w.heap.push _)[w.heap.size]? = _; rw [Array.getElem?_push_size]
 rw [← hgi]
 have HB0:=hdq B0
 have HIT0:=hdq hit0
 clear B0 hit0 hgi
 go_loopw [4] (fun _ wr=>∃ pos:Nat,pos≤s.size∧wr.heap[gi]? = some (.stringIter s pos)∧(∀ i,i < pos→chN (byteAt s i) = true)∧Below w.heap.size w wr) (fun _ wr=>s.size - wr.iterPos gi)
 case atStart=>exact ⟨0,by omega,HIT0.out,fun i hi=>by omega,HB0.out⟩
 case round =>
  obtain ⟨pos,hpz,hit,hall,BB⟩:=hrel
  have HIT:=hdq hit
  have HALL:=hdq hall
  have HBB:=hdq BB
  have HPZ:=hdq hpz
  by_cases hp:pos < s.size
  ·have HP:=hdq hp
   have hbn:=zex s pos hp
   by_cases h128:byteAt s pos < 128
   ·have hnx:∀ ty,(Instr.next (.pointer (some ⟨gi,0,none⟩)) true ty).run Tryz.prog wr = .ok (.tuple #[.bool true,.int .i64 pos,.int .i32 ((byteAt s pos:Nat):Int)]) (wr.iterAt gi s (pos + 1)):=fun ty=>by
     have h:=Lib.run_next_ascii_at (P:=Tryz.prog) wr gi s pos ty hit hp (by rw [hbn]; exact h128)
     rw [hbn] at h
     exact h
    obtain ⟨n,hn⟩:∃ n,n = byteAt s pos:=⟨_,rfl⟩
    rw [← hn] at hnx h128
    have HN:=hdq hn
    have HNX:=hdq hnx
    clear hn hnx hbn hp hpz hit hall BB
    by_cases hch:chN n = true
    ·have HCH:=hdq hch
     have fin:∀ wz,wz = wr.iterAt gi s (pos + 1)→(∃ pos:Nat,pos≤s.size∧wz.heap[gi]? = some (.stringIter s pos)∧(∀ i,i < pos→chN (byteAt s i) = true)∧Below w.heap.size w wz)∧s.size - wz.iterPos gi < s.size - wr.iterPos gi:=by
      rintro _ rfl
      have hh:=Lib.iterAt_heap wr gi s pos (pos + 1) HIT.out
      refine ⟨⟨pos + 1,by have:=HP.out; omega,hh,fun i hi=>?_,Lib.below_iterAt HBB.out (by rw [HGI.out]; exact Nat.le_refl _) s _⟩,?_⟩
      ·by_cases c:i < pos
       ·exact HALL.out i c
       ·rw [show i = pos by omega,← HN.out]; exact HCH.out
      ·simp only [World.iterPos,hh,HIT.out]
       have:=HP.out
       omega
     have FIN:=hdq fin
     clear fin
     rcases of_decide_eq_true hch with h | h | h | h | h
     ·have x1:¬ (n:Int) < 97:=by omega
      have x2:¬ (122:Int) < (n:Int):=by omega
      clear hch h h128
      have hnx2:=HNX.out
      go_wp2_with fail
      exact FIN.out _ rfl
     ·have x1:(n:Int) < 97:=by omega
      have x2:¬ (n:Int) < 65:=by omega
      have x3:¬ (90:Int) < (n:Int):=by omega
      clear hch h h128
      have hnx2:=HNX.out
      go_wp2_with fail
      exact FIN.out _ rfl
     ·have x1:(n:Int) < 97:=by omega
      have x2:(n:Int) < 65:=by omega
      have x3:¬ (n:Int) < 48:=by omega
      have x4:¬ (57:Int) < (n:Int):=by omega
      clear hch h h128
      have hnx2:=HNX.out
      go_wp2_with fail
      exact FIN.out _ rfl
     ·subst h
      clear hch h128
      have hnx2:=HNX.out
      go_wp2_with fail
      exact FIN.out _ rfl
     ·subst h
      clear hch h128
      have hnx2:=HNX.out
      go_wp2_with fail
      exact FIN.out _ rfl
    ·have hB:B = false:=NO.out fun h=>hch (by rw [HN.out]; exact h.2.2.2.2 pos HP.out)
     subst hB
     have hnot:¬ ((97≤n∧n≤122)∨(65≤n∧n≤90)∨(48≤n∧n≤57)∨n = 32∨n = 46):=fun h=>hch (decide_eq_true h)
     have x9:((n:Int) == 32) = false:=beq_eq_false_iff_ne.2 (by omega)
     have x10:((n:Int) == 46) = false:=beq_eq_false_iff_ne.2 (by omega)
     have y9:((n:Int) != 32) = true:=by rw [bne,x9]; rfl
     have y10:((n:Int) != 46) = true:=by rw [bne,x10]; rfl
     have fin:∀ wz,wz = wr.iterAt gi s (pos + 1)→Below w.heap.size w wz:=by
      rintro _ rfl
      exact Lib.below_iterAt HBB.out (by rw [HGI.out]; exact Nat.le_refl _) s _
     have FIN:=hdq fin
     clear hch fin
     rcases (show (n < 48)∨(57 < n∧n < 65)∨(90 < n∧n < 97)∨122 < n by omega) with h | h | h | h
     ·have x1:(n:Int) < 97:=by omega
      have x2:(n:Int) < 65:=by omega
      have x3:(n:Int) < 48:=by omega
      clear hnot h h128
      have hnx2:=HNX.out
      go_wp2_with fail
      go_ret
      exact ⟨rfl,FIN.out _ rfl⟩
     ·have x1:(n:Int) < 97:=by omega
      have x2:(n:Int) < 65:=by omega
      have x3:¬ (n:Int) < 48:=by omega
      have x4:(57:Int) < (n:Int):=by omega
      clear hnot h h128
      have hnx2:=HNX.out
      go_wp2_with fail
      go_ret
      exact ⟨rfl,FIN.out _ rfl⟩
     ·have x1:(n:Int) < 97:=by omega
      have x2:¬ (n:Int) < 65:=by omega
      have x3:(90:Int) < (n:Int):=by omega
      have x4:¬ (n:Int) < 48:=by omega
      have x5:(57:Int) < (n:Int):=by omega
      clear hnot h h128
      have hnx2:=HNX.out
      go_wp2_with fail
      go_ret
      exact ⟨rfl,FIN.out _ rfl⟩
     ·have x1:¬ (n:Int) < 97:=by omega
      have x2:(122:Int) < (n:Int):=by omega
      have x3:¬ (n:Int) < 65:=by omega
      have x4:(90:Int) < (n:Int):=by omega
      have x5:¬ (n:Int) < 48:=by omega
      have x6:(57:Int) < (n:Int):=by omega
      clear hnot h h128
      have hnx2:=HNX.out
      go_wp2_with fail
      go_ret
      exact ⟨rfl,FIN.out _ rfl⟩
   ·have h128b:128≤byteAt s pos:=by omega
    have hd:=(decode_high s pos hp (by rw [hbn]; exact h128b)).1
    have hB:B = false:=NO.out fun h=>by
     have:=of_decide_eq_true (h.2.2.2.2 pos HP.out)
     omega
    subst hB
    have hnx:=fun ty=>Lib.run_next_any_at (P:=Tryz.prog) wr gi s pos ty hit hp
    have fin:∀ q wz,wz = wr.iterAt gi s q→Below w.heap.size w wz:=by
     rintro q _ rfl
     exact Lib.below_iterAt HBB.out (by rw [HGI.out]; exact Nat.le_refl _) s _
    have FIN:=hdq fin
    generalize (Utf8.decode s pos).1 = n at *
    generalize pos + (Utf8.decode s pos).2 = q at *
    have x1:¬ (n:Int) < 97:=by omega
    have x2:(122:Int) < (n:Int):=by omega
    have x3:¬ (n:Int) < 65:=by omega
    have x4:(90:Int) < (n:Int):=by omega
    have x5:¬ (n:Int) < 48:=by omega
    have x6:(57:Int) < (n:Int):=by omega
    have x9:((n:Int) == 32) = false:=beq_eq_false_iff_ne.2 (by omega)
    have x10:((n:Int) == 46) = false:=beq_eq_false_iff_ne.2 (by omega)
    have y9:((n:Int) != 32) = true:=by rw [bne,x9]; rfl
    have y10:((n:Int) != 46) = true:=by rw [bne,x10]; rfl
    clear h128 h128b hd fin hbn hp hpz hit hall BB
    go_wp2_with fail
    go_ret
    exact ⟨rfl,FIN.out q _ rfl⟩
  ·have hB:B = true:=YES.out fun i hi=>HALL.out i (by omega)
   subst hB
   have hnx:=fun ty=>Lib.run_next_end_at (P:=Tryz.prog) wr gi s pos ty hit hp
   clear hp hpz hit hall BB
   go_wp2_with fail
   go_ret
   exact ⟨rfl,HBB.out⟩
def codeOk (n:Nat):Bool:=decide (1≤n∧n≤999999)
def firstE (f:Nat→Nat):Nat→Nat
 | 0=>0
 | n + 1=>if firstE f n ≠ 0 then firstE f n else f n
theorem zbw {f:Nat→Nat} {k:Nat} (h:firstE f k = 0):firstE f (k + 1) = f k:=by
 show (if firstE f k ≠ 0 then firstE f k else f k) = f k
 rw [if_neg (by rw [h]; simp)]
theorem zcv {f:Nat→Nat} {k n:Nat} (h:firstE f k = 0) (he:f k ≠ 0) (hk:k < n):firstE f n = f k:=by
 induction n with
 | zero=>omega
 | succ m ih =>
  by_cases c:k = m
  ·subst c; exact zbw h
  ·have h1:=ih (by omega)
   show (if firstE f m ≠ 0 then firstE f m else f m) = f k
   rw [if_pos (by rw [h1]; exact he),h1]
theorem zfy {f:Nat→Nat} {n:Nat} (h:firstE f n = 0):∀ i,i < n→f i = 0:=by
 induction n with
 | zero=>intro i hi; omega
 | succ m ih =>
  have h0:firstE f m = 0:=by
   by_cases c:firstE f m = 0
   ·exact c
   ·have:firstE f (m + 1) = firstE f m:=if_pos c
    rw [this] at h; exact absurd h c
  intro i hi
  by_cases c:i = m
  ·subst c; rw [← zbw h0]; exact h
  ·exact ih h0 i (by omega)
def e1 (l:List Ac) (i:Nat):Nat:=if codeOk (l.getD i ac0).code = false then 5 else if 0 < i∧(l.getD i ac0).code≤(l.getD (i - 1) ac0).code then 6 else if nameOk (l.getD i ac0).name = false then 10 else if 5≤(l.getD i ac0).kind then 9 else 0
def e2x (l:List Ac) (x:Ac):Nat:=if x.par = 0 then 0 else if (getC l x.par).isSome = false then 8 else if ((getC l x.par).getD ac0).kind ≠ x.kind then 9 else if 12 < (wayO l 13 (getC l x.code)).length then 11 else 0
def e2 (l:List Ac) (i:Nat):Nat:=e2x l (l.getD i ac0)
def checkC (l:List Ac):Nat:=if 200 < l.length then 2 else if firstE (e1 l) l.length ≠ 0 then firstE (e1 l) l.length else firstE (e2 l) l.length
theorem zmv {l:List Ac} {k e:Nat} (h2:¬ 200 < l.length) (hk:k < l.length) (h0:firstE (e1 l) k = 0) (he:e1 l k = e) (hn:e ≠ 0):checkC l = e:=by
 have:=zcv h0 (by rw [he]; exact hn) hk
 unfold checkC
 rw [if_neg h2,this,he,if_pos hn]
theorem chk_e2 {l:List Ac} {k e:Nat} (h2:¬ 200 < l.length) (h1:firstE (e1 l) l.length = 0) (hk:k < l.length) (h0:firstE (e2 l) k = 0) (he:e2 l k = e) (hn:e ≠ 0):checkC l = e:=by
 have:=zcv h0 (by rw [he]; exact hn) hk
 unfold checkC
 rw [if_neg h2,if_neg (by rw [h1]; simp),this,he]
theorem chk_ok {l:List Ac} (h2:¬ 200 < l.length) (h1:firstE (e1 l) l.length = 0) (h0:firstE (e2 l) l.length = 0):checkC l = 0:=by
 unfold checkC
 rw [if_neg h2,if_neg (by rw [h1]; simp),h0]
theorem zup {l:List Ac} (h1:firstE (e1 l) l.length = 0):AcRise l:=by
 have hs:∀ i,i + 1 < l.length→(l.getD i ac0).code < (l.getD (i + 1) ac0).code:=fun i hi=>by
  have h:=zfy h1 (i + 1) hi
  unfold e1 at h
  by_cases c:codeOk (l.getD (i + 1) ac0).code = false
  ·rw [if_pos c] at h; cases h
  ·rw [if_neg c] at h
   by_cases c2:0 < i + 1∧(l.getD (i + 1) ac0).code≤(l.getD (i + 1 - 1) ac0).code
   ·rw [if_pos c2] at h; cases h
   ·have c3:¬ (l.getD (i + 1) ac0).code≤(l.getD i ac0).code:=fun h=>c2 ⟨by omega,h⟩
    omega
 intro i j hij hj
 induction j with
 | zero=>omega
 | succ j ih =>
  by_cases c:i = j
  ·subst c; exact hs i hj
  ·have:=ih (by omega) (by omega)
   have:=hs j hj
   omega
set_option maxHeartbeats 1000000 in
theorem zmu (n:Nat) (w:World):Calls Tryz.prog 73 #[.int .u32 (n:Int)] w fun e w'=>e = .returned (.bool (codeOk n))∧w' = w:=by
 by_cases h1:1≤n
 ·by_cases h2:n≤999999
  ·have e:codeOk n = true:=decide_eq_true ⟨h1,h2⟩
   have i1:(1:Int)≤(n:Int):=by omega
   have i2:(n:Int)≤999999:=by omega
   rw [e]
   clear h1 h2 e
   go_enter Tryz.func73,Tryz.ntmps73
   go_wp2
   go_ret
   exact ⟨rfl,rfl⟩
  ·have e:codeOk n = false:=decide_eq_false fun h=>h2 h.2
   have i1:(1:Int)≤(n:Int):=by omega
   have i2:¬ (n:Int)≤999999:=by omega
   rw [e]
   clear h1 h2 e
   go_enter Tryz.func73,Tryz.ntmps73
   go_wp2
   go_ret
   exact ⟨rfl,rfl⟩
 ·have e:codeOk n = false:=decide_eq_false fun h=>h1 h.1
  have i1:¬ (1:Int)≤(n:Int):=by omega
  rw [e]
  clear h1 e
  go_enter Tryz.func73,Tryz.ntmps73
  go_wp2
  go_ret
  exact ⟨rfl,rfl⟩
set_option maxHeartbeats 8000000 in
set_option maxRecDepth 100000 in
theorem zse (a:Option Addr) (cap:Nat) (l:List Ac) (w:World) (hE:ElsAt ac 4 ac0 w a l) (hl:l.length≤100000) (hnm:∀ x ∈ l,x.name.size≤1000000000) :
  Calls Tryz.prog 44 #[.slice a l.length cap] w fun e w'=>e = .returned (.int .i64 (checkC l:Int))∧Below w.heap.size w w':=by
 obtain ⟨E,hEE⟩:∃ E,E = checkC l:=⟨_,rfl⟩
 rw [← hEE]
 have HEE:=hdq hEE
 have HE:=hdq hE
 have HL:=hdq hl
 have HNM:=hdq hnm
 clear hEE hE hl hnm
 by_cases h200:200 < l.length
 ·have i2:(200:Int) < (l.length:Int):=by omega
  have e2:E = 2:=by rw [HEE.out]; unfold checkC; rw [if_pos h200]
  subst e2
  clear h200
  go_enter Tryz.func44,Tryz.ntmps44
  go_wp2_with fail
  go_ret
  exact ⟨rfl,Below.refl _ _⟩
 have i2:¬ (200:Int) < (l.length:Int):=by omega
 have H200:=hdq h200
 clear h200
 go_enter Tryz.func44,Tryz.ntmps44
 go_wp2_with fail
 clear i2
 go_loopw [14] (fun iv wr=>∃ k:Nat,k≤l.length∧iv = .int .i64 (k:Int)∧firstE (e1 l) k = 0∧Below w.heap.size w wr) (fun iv _=>l.length - (intOf iv).toNat)
 case atStart=>exact ⟨0,by omega,rfl,rfl,Below.refl _ _⟩
 case round =>
  obtain ⟨k,hk,rfl,h0,BB⟩:=hrel
  have H0:=hdq h0
  have HB:=hdq BB
  clear h0 BB
  by_cases hlt:k < l.length
  ·have i0:(0:Int)≤(k:Int):=by omega
   have i1:(k:Int) < (l.length:Int):=by omega
   have HLT:=hdq hlt
   have e5:IntKind.i64.wrap ((k:Int) + 1) = (k:Int) + 1:=by rw [IntKind.wrap_i64]; have:=HL.out; omega
   obtain ⟨b,off,rfl,hcc⟩:=zdq HE.out hlt
   have ck:=zah (hcc k hlt) HB.out
   have B0:=zaa HB.out (.cells (ac (l.getD k ac0)).toArray 61)
   have HCC:=hdq fun j hj=>zah (hcc j hj) B0
   obtain ⟨x,hx⟩:∃ x,x = l.getD k ac0:=⟨_,rfl⟩
   have hxn:x.name.size≤1000000000:=HNM.out x (by rw [hx]; exact zay hlt)
   have R0:=Row.new wr (ac x).toArray 61
   have V5:codeOk x.code = false→E = 5:=fun h=>by rw [HEE.out]; exact zmv H200.out HLT.out H0.out (by unfold e1; rw [← hx,if_pos h]) (by omega)
   have V6:codeOk x.code = true→(0 < k∧x.code≤(l.getD (k - 1) ac0).code)→E = 6:=fun h h1=>by rw [HEE.out]; exact zmv H200.out HLT.out H0.out (by unfold e1; rw [← hx,if_neg (by rw [h]; decide),if_pos h1]) (by omega)
   have V10:codeOk x.code = true→¬ (0 < k∧x.code≤(l.getD (k - 1) ac0).code)→nameOk x.name = false→E = 10:=fun h h1 h2=>by rw [HEE.out]; exact zmv H200.out HLT.out H0.out (by unfold e1; rw [← hx,if_neg (by rw [h]; decide),if_neg h1,if_pos h2]) (by omega)
   have V9:codeOk x.code = true→¬ (0 < k∧x.code≤(l.getD (k - 1) ac0).code)→nameOk x.name = true→5≤x.kind→E = 9:=fun h h1 h2 h3=>by rw [HEE.out]; exact zmv H200.out HLT.out H0.out (by unfold e1; rw [← hx,if_neg (by rw [h]; decide),if_neg h1,if_neg (by rw [h2]; decide),if_pos h3]) (by omega)
   have V0:codeOk x.code = true→¬ (0 < k∧x.code≤(l.getD (k - 1) ac0).code)→nameOk x.name = true→¬ 5≤x.kind→firstE (e1 l) (k + 1) = 0:=fun h h1 h2 h3=>by rw [zbw H0.out]; unfold e1; rw [← hx,if_neg (by rw [h]; decide),if_neg h1,if_neg (by rw [h2]; decide),if_neg h3]
   rw [← hx] at B0 HCC ck
   have HV5:=hdq V5
   have HV6:=hdq V6
   have HV10:=hdq V10
   have HV9:=hdq V9
   have HV0:=hdq V0
   have c0:wr.cell? ⟨b,off + k * 4,none⟩ = some (.int .u32 (x.code:Int)):=ck 0 _ rfl
   have c1:wr.cell? ⟨b,off + k * 4 + 1,none⟩ = some (.string x.name):=ck 1 _ rfl
   have c2:wr.cell? ⟨b,off + k * 4 + 2,none⟩ = some (.int .u8 (x.kind:Int)):=ck 2 _ rfl
   have c3:wr.cell? ⟨b,off + k * 4 + 3,none⟩ = some (.int .u32 (x.par:Int)):=ck 3 _ rfl
   clear V5 V6 V10 V9 V0 hcc ck hx hlt hk
   go_wp2_with fail
   obtain ⟨g,hg⟩:∃ g,g = wr.heap.size:=⟨_,rfl⟩
   rw [← hg] at R0 ⊢
   change Row (wr.alloc (.cells #[.int .u32 (x.code:Int),.string x.name,.int .u8 (x.kind:Int),.int .u32 (x.par:Int)] 61)) g (ac x).toArray _ at R0
   change Below _ _ (wr.alloc (.cells #[.int .u32 (x.code:Int),.string x.name,.int .u8 (x.kind:Int),.int .u32 (x.par:Int)] 61)) at B0
   change Hid (∀ (j:Nat),j < l.length→(wr.alloc (.cells #[.int .u32 (x.code:Int),.string x.name,.int .u8 (x.kind:Int),.int .u32 (x.par:Int)] 61)).rangeAt b (off + j * 4) (ac (l.getD j ac0))) at HCC
   generalize wr.alloc (.cells #[.int .u32 (x.code:Int),.string x.name,.int .u8 (x.kind:Int),.int .u32 (x.par:Int)] 61) = w2 at *
   have d0:w2.cell? ⟨g,0,none⟩ = some (.int .u32 (x.code:Int)):=R0.cell 0
   have d1:∀ n,(w2.drewN n).cell? ⟨g,1,none⟩ = some (.string x.name):=fun n=>(R0.drewN n).cell 1
   have HR:=hdq R0
   have HB2:=hdq B0
   clear R0 B0 hg c0 c1 c2 c3 i1
   refine (zmu x.code w2).mono ?_
   rintro _ w2 ⟨rfl,rfl⟩
   by_cases q1:codeOk x.code = false
   ·have hv:=HV5.out q1
    subst hv
    rw [q1]
    clear q1
    go_wp2_with fail
    go_ret
    exact ⟨rfl,HB2.out⟩
   have q1:codeOk x.code = true:=by simpa using q1
   have Q1:=hdq q1
   rw [q1]
   clear q1
   by_cases hk0:k = 0
   ·have Q2:Hid (¬ (0 < k∧x.code≤(l.getD (k - 1) ac0).code)):=hdq fun h=>by omega
    have g0:decide ((0:Int) < (k:Int)) = false:=decide_eq_false (by omega)
    have g00:decide (0 < k) = false:=decide_eq_false (by omega)
    clear hk0
    go_wp2_with fail
    go_quiet (fail)
    go_wp2_with fail
    refine (zmb x.name hxn _).mono ?_
    rintro _ w3 ⟨rfl,hb⟩
    have RZ3:=(HR.out.drewN _).below hb
    have d2:w3.cell? ⟨g,2,none⟩ = some (.int .u8 (x.kind:Int)):=RZ3.cell 2
    have HB3:=hdq (zab (zeq HB2.out _) hb)
    clear RZ3 hb
    by_cases q3:nameOk x.name = false
    ·have hv:=HV10.out Q1.out Q2.out q3
     subst hv
     rw [q3]
     clear q3
     go_wp2_with fail
     go_ret
     exact ⟨rfl,HB3.out⟩
    have q3:nameOk x.name = true:=by simpa using q3
    have Q3:=hdq q3
    rw [q3]
    clear q3
    by_cases q4:5≤x.kind
    ·have hv:=HV9.out Q1.out Q2.out Q3.out q4
     have z4:(5:Int)≤(x.kind:Int):=by omega
     subst hv
     clear q4
     go_wp2_with fail
     go_ret
     exact ⟨rfl,HB3.out⟩
    have Q4:=hdq q4
    have z4:¬ (5:Int)≤(x.kind:Int):=by omega
    clear q4
    go_wp2_with fail
    exact ⟨⟨k + 1,by have:=HLT.out; omega,by simp,HV0.out Q1.out Q2.out Q3.out Q4.out,HB3.out⟩,by have:=HLT.out; simp [intOf]; omega⟩
   ·obtain ⟨j,hj⟩:∃ j,j + 1 = k:=⟨k - 1,by omega⟩
    obtain ⟨y,hy⟩:∃ y,y = l.getD j ac0:=⟨_,rfl⟩
    have hjl:j < l.length:=by have:=HLT.out; omega
    have CJ:=HCC.out j hjl
    rw [← hy] at CJ
    have y0:w2.cell? ⟨b,off + j * 4,none⟩ = some (.int .u32 (y.code:Int)):=CJ 0 _ rfl
    have hk1:k - 1 = j:=by omega
    rw [hk1,← hy] at HV6 HV10 HV9 HV0
    have g0:decide ((0:Int) < (k:Int)) = true:=decide_eq_true (by omega)
    have g00:decide (0 < k) = true:=decide_eq_true (by omega)
    have g1:IntKind.i64.wrap ((k:Int) - 1) = (j:Int):=by rw [IntKind.wrap_i64]; have:=HL.out; omega
    have g2:(0:Int)≤(j:Int):=by omega
    have g3:(j:Int) < (l.length:Int):=by omega
    have GK:=hdq (show 0 < k by omega)
    clear CJ hy hk1 hj hk0 hjl
    by_cases q2:x.code≤y.code
    ·have hv:=HV6.out Q1.out ⟨GK.out,q2⟩
     have z2:decide ((x.code:Int)≤(y.code:Int)) = true:=decide_eq_true (by omega)
     have z22:decide (x.code≤y.code) = true:=decide_eq_true q2
     subst hv
     clear q2
     go_wp2_with fail
     go_quiet (fail)
     go_wp2_with fail
     go_ret
     exact ⟨rfl,zeq HB2.out _⟩
    have Q2:Hid (¬ (0 < k∧x.code≤y.code)):=hdq fun h=>q2 h.2
    have z2:decide ((x.code:Int)≤(y.code:Int)) = false:=decide_eq_false (by omega)
    have z22:decide (x.code≤y.code) = false:=decide_eq_false q2
    clear q2
    go_wp2_with fail
    go_quiet (fail)
    go_wp2_with fail
    refine (zmb x.name hxn _).mono ?_
    rintro _ w3 ⟨rfl,hb⟩
    have RZ3:=(HR.out.drewN _).below hb
    have d2:w3.cell? ⟨g,2,none⟩ = some (.int .u8 (x.kind:Int)):=RZ3.cell 2
    have HB3:=hdq (zab (zeq HB2.out _) hb)
    clear RZ3 hb
    by_cases q3:nameOk x.name = false
    ·have hv:=HV10.out Q1.out Q2.out q3
     subst hv
     rw [q3]
     clear q3
     go_wp2_with fail
     go_ret
     exact ⟨rfl,HB3.out⟩
    have q3:nameOk x.name = true:=by simpa using q3
    have Q3:=hdq q3
    rw [q3]
    clear q3
    by_cases q4:5≤x.kind
    ·have hv:=HV9.out Q1.out Q2.out Q3.out q4
     have z4:(5:Int)≤(x.kind:Int):=by omega
     subst hv
     clear q4
     go_wp2_with fail
     go_ret
     exact ⟨rfl,HB3.out⟩
    have Q4:=hdq q4
    have z4:¬ (5:Int)≤(x.kind:Int):=by omega
    clear q4
    go_wp2_with fail
    exact ⟨⟨k + 1,by have:=HLT.out; omega,by simp,HV0.out Q1.out Q2.out Q3.out Q4.out,HB3.out⟩,by have:=HLT.out; simp [intOf]; omega⟩
  ·have i1:¬ (k:Int) < (l.length:Int):=by omega
   obtain rfl:k = l.length:=by omega
   have HR:=hdq (zup H0.out)
   have GET:=hdq fun (m:Nat) W (hb:Below w.heap.size w W)=>zde a cap l m W (HE.out.below hb) (by have:=HL.out; omega) HR.out
   have WAY:=hdq fun (m:Nat) W (hb:Below w.heap.size w W)=>zpc a cap l m W (HE.out.below hb) (by have:=HL.out; omega) HR.out
   have H1:=H0
   have HB1:=HB
   clear hlt hk H0 HB
   go_wp2_with fail
   clear i1
   go_loopw [50] (fun iv wr=>∃ k:Nat,k≤l.length∧iv = .int .i64 (k:Int)∧firstE (e2 l) k = 0∧Below w.heap.size w wr) (fun iv _=>l.length - (intOf iv).toNat)
   case atStart=>exact ⟨0,by omega,rfl,rfl,HB1.out⟩
   case round =>
    clear HB1
    obtain ⟨k,hk,rfl,h0,BB⟩:=hrel
    have H0:=hdq h0
    have HB:=hdq BB
    clear h0 BB
    by_cases hlt:k < l.length
    ·have i0:(0:Int)≤(k:Int):=by omega
     have i1:(k:Int) < (l.length:Int):=by omega
     have HLT:=hdq hlt
     have e5:IntKind.i64.wrap ((k:Int) + 1) = (k:Int) + 1:=by rw [IntKind.wrap_i64]; have:=HL.out; omega
     obtain ⟨b,off,rfl,hcc⟩:=zdq HE.out hlt
     have ck:=zah (hcc k hlt) HB.out
     have B0:=zaa HB.out (.cells (ac (l.getD k ac0)).toArray 61)
     obtain ⟨x,hx⟩:∃ x,x = l.getD k ac0:=⟨_,rfl⟩
     rw [← hx] at B0 ck
     have R0:=Row.new wr (ac x).toArray 61
     have VE:∀ e,e ≠ 0→e2x l x = e→E = e:=fun e h1 h2=>by rw [HEE.out]; exact chk_e2 H200.out H1.out HLT.out H0.out (by unfold e2; rw [← hx]; exact h2) h1
     have V0:e2x l x = 0→firstE (e2 l) (k + 1) = 0:=fun h=>by rw [zbw H0.out]; unfold e2; rw [← hx]; exact h
     have HVE:=hdq VE
     have HV0:=hdq V0
     have c0:wr.cell? ⟨b,off + k * 4,none⟩ = some (.int .u32 (x.code:Int)):=ck 0 _ rfl
     have c1:wr.cell? ⟨b,off + k * 4 + 1,none⟩ = some (.string x.name):=ck 1 _ rfl
     have c2:wr.cell? ⟨b,off + k * 4 + 2,none⟩ = some (.int .u8 (x.kind:Int)):=ck 2 _ rfl
     have c3:wr.cell? ⟨b,off + k * 4 + 3,none⟩ = some (.int .u32 (x.par:Int)):=ck 3 _ rfl
     have FIN:∀ W,firstE (e2 l) (k + 1) = 0→Below w.heap.size w W→(∃ k':Nat,k'≤l.length∧(Value.int .i64 ((k:Int) + 1)) = .int .i64 (k':Int)∧firstE (e2 l) k' = 0∧Below w.heap.size w W)∧l.length - (intOf (.int .i64 ((k:Int) + 1))).toNat < l.length - (intOf (.int .i64 (k:Int))).toNat:=fun W h hb=>⟨⟨k + 1,by have:=HLT.out; omega,by simp,h,hb⟩,by have:=HLT.out; simp [intOf]; omega⟩
     have HFIN:=hdq FIN
     clear VE V0 hcc ck hx hlt hk FIN
     by_cases p0:x.par = 0
     ·have z0:((x.par:Int) == 0) = true:=by simp [p0]
      have HP:=hdq p0
      have HB0:=hdq B0
      clear p0 R0 B0
      go_wp2_with fail
      exact HFIN.out _ (HV0.out (by unfold e2x; rw [if_pos HP.out])) HB0.out
     have z0:((x.par:Int) == 0) = false:=beq_eq_false_iff_ne.2 (by omega)
     have HP:=hdq p0
     clear p0
     go_wp2_with fail
     obtain ⟨g,hg⟩:∃ g,g = wr.heap.size:=⟨_,rfl⟩
     have hgw:g < wr.heap.size + 1:=by omega
     rw [← hg] at R0 ⊢
     change Row (wr.alloc (.cells #[.int .u32 (x.code:Int),.string x.name,.int .u8 (x.kind:Int),.int .u32 (x.par:Int)] 61)) g (ac x).toArray _ at R0
     change Below _ _ (wr.alloc (.cells #[.int .u32 (x.code:Int),.string x.name,.int .u8 (x.kind:Int),.int .u32 (x.par:Int)] 61)) at B0
     generalize wr.alloc (.cells #[.int .u32 (x.code:Int),.string x.name,.int .u8 (x.kind:Int),.int .u32 (x.par:Int)] 61) = w2 at *
     refine (GET.out x.par w2 B0).mono ?_
     rintro _ w3 ⟨rfl,hb⟩
     have R3:=R0.below hb
     have B3:=zab B0 hb
     obtain ⟨q,hq⟩:∃ q,q = getC l x.par:=⟨_,rfl⟩
     rw [← hq]
     clear hb R0 B0 hg hgw c0 c1 c2 c3 i1 z0
     cases q with
     | none =>
      have hv:=HVE.out 8 (by omega) (by unfold e2x; rw [if_neg HP.out,← hq]; rfl)
      have HB3:=hdq (zaa B3 (.cells (ac ac0).toArray 61))
      subst hv
      clear R3 B3 hq
      simp only [Option.isSome_none,Option.getD_none,ac]
      go_wp2_with fail
      go_ret
      exact ⟨rfl,HB3.out⟩
     | some p =>
      have RP:=Row.new w3 (ac p).toArray 61
      have B4:=zaa B3 (.cells (ac p).toArray 61)
      have R4:=R3.alloc (.cells (ac p).toArray 61)
      have HQ:=hdq hq
      clear hq B3
      simp only [Option.isSome_some,Option.getD_some,ac]
      have d2:(w3.alloc (.cells #[.int .u32 (p.code:Int),.string p.name,.int .u8 (p.kind:Int),.int .u32 (p.par:Int)] 61)).cell? ⟨g,2,none⟩ = some (.int .u8 (x.kind:Int)):=R4.cell 2
      have d0:(w3.alloc (.cells #[.int .u32 (p.code:Int),.string p.name,.int .u8 (p.kind:Int),.int .u32 (p.par:Int)] 61)).cell? ⟨g,0,none⟩ = some (.int .u32 (x.code:Int)):=R4.cell 0
      have HB4:=hdq B4
      have HR4:=hdq R4
      clear R3 B4 R4 RP
      by_cases p1:p.kind = x.kind
      ·have z1:((p.kind:Int) == (x.kind:Int)) = true:=by simp [p1]
       have HP1:=hdq p1
       clear p1
       go_wp2_with fail
       refine (WAY.out x.code _ HB4.out).mono ?_
       rintro _ w5 ⟨v,rfl,hown,hb5⟩
       have HB5:=hdq (zab HB4.out hb5)
       obtain ⟨sp,sc,rfl⟩:=zaj hown
       obtain ⟨n,hn⟩:∃ n,n = (wayO l 13 (getC l x.code)).length:=⟨_,rfl⟩
       rw [← hn]
       have HN:=hdq hn
       clear hb5 hown hn
       by_cases p2:12 < n
       ·have hv:=HVE.out 11 (by omega) (by unfold e2x; rw [if_neg HP.out,← HQ.out,if_neg (by simp),if_neg (by simp [HP1.out]),if_pos (by rw [← HN.out]; exact p2)])
        have z2:(12:Int) < (n:Int):=by omega
        subst hv
        clear p2
        go_wp2_with fail
        go_ret
        exact ⟨rfl,HB5.out⟩
       ·have hv:=HV0.out (by unfold e2x; rw [if_neg HP.out,← HQ.out,if_neg (by simp),if_neg (by simp [HP1.out]),if_neg (by rw [← HN.out]; exact p2)])
        have HHV:=hdq hv
        have z2:¬ (12:Int) < (n:Int):=by omega
        clear p2 hv
        go_wp2_with fail
        exact HFIN.out _ HHV.out HB5.out
      ·have z1:((p.kind:Int) == (x.kind:Int)) = false:=beq_eq_false_iff_ne.2 (by omega)
       have hv:=HVE.out 9 (by omega) (by unfold e2x; rw [if_neg HP.out,← HQ.out,if_neg (by simp),if_pos (by simpa using p1)])
       subst hv
       clear p1
       go_wp2_with fail
       go_ret
       exact ⟨rfl,HB4.out⟩
    ·have i1:¬ (k:Int) < (l.length:Int):=by omega
     obtain rfl:k = l.length:=by omega
     have hv:E = 0:=by rw [HEE.out]; exact chk_ok H200.out H1.out H0.out
     subst hv
     clear hlt hk
     go_wp2_with fail
     go_ret
     exact ⟨rfl,HB.out⟩
def putU (l:List Int) (x:Int):List Int:=l.filter (fun y=>decide (y < x)) ++ x :: l.filter (fun y=>decide (x < y))
def dropU (l:List Int) (x:Int):List Int:=l.filter fun y=>!decide (y = x)
def renDF:Go.Shelf.Ren:=⟨fun | 6=>131 | 10=>88 | n=>n,fun | 0=>0 | 3=>3 | 4=>4 | 22=>35 | 23=>56 | 25=>120 | n=>n,fun | n=>n⟩
theorem laysDF:SlLaysH.n10 Tryz.prog renDF:={
 mixed:=by kernel_rfl
 f6:=⟨Tryz.f131.name,by decide,Tryz.func131.trans (congrArg some (by kernel_rfl))⟩
 f10:=⟨Tryz.f88.name,by decide,Tryz.func88.trans (congrArg some (by kernel_rfl))⟩
 t0:=Tryz.underlying0
 a0:=Tryz.isAgg0
 z0:=Tryz.sizeOf0
 v0:=Tryz.zeroValue0
 t3:=Tryz.underlying3
 a3:=Tryz.isAgg3
 z3:=Tryz.sizeOf3
 v3:=Tryz.zeroValue3
 t4:=Tryz.underlying4
 a4:=Tryz.isAgg4
 z4:=Tryz.sizeOf4
 v4:=Tryz.zeroValue4
 t22:=Tryz.underlying35
 a22:=Tryz.isAgg35
 z22:=Tryz.sizeOf35
 v22:=Tryz.zeroValue35
 a23:=Tryz.isAgg56
 z23:=Tryz.sizeOf56
 t25:=Tryz.underlying120
 a25:=Tryz.isAgg120
 z25:=Tryz.sizeOf120
 v25:=Tryz.zeroValue120 }
theorem zom (b off n c:Nat) (xs:List Int) (w:World) (h:∀ i,i < xs.length→w.cell? ⟨b,off + i,none⟩ = some (.int .u16 (xs.getD i 0))) (hl:xs.length = n) (hn:n≤100000) :
  Calls Tryz.prog 89 #[.slice (some ⟨b,off,none⟩) n c] w fun e w'=>∃ v,e = .returned v∧w'.ownsRow w.heap.size 56 1 v n (nv .u16 xs)∧v ≠ .slice none 0 0∧Below w.heap.size w w':=by
 obtain ⟨i,hi,h1,h2,h3⟩:=zfg
 have z:∀ w,(Go.sizeOf 56).run Tryz.prog w = .ok 1 w:=fun w=>by kernel_rfl
 refine (AnyE.slices_Clone laysU i (.int .u16 0) 1 2 hi h1 h2 h3 rfl (by omega) z b off n c (nv .u16 xs) w (by rw [zbs,hl,Nat.mul_one]) (by unfold maxLen; omega) (by omega) (NsAt.cells (n:=n) (c:=c) hl h) (ziw _ _)).mono ?_
 rintro e w' ⟨v,rfl,ho,hnil,hb⟩
 exact ⟨v,rfl,ho,hnil,hb⟩
theorem has_any (v:Value) (l:List Int) (x:Int) (w:World) (hN:NsAt .u16 w v l) (hl:l.length≤1000000) :
  Calls Tryz.prog 52 #[v,.int .u16 x] w fun e w'=>e = .returned (.bool (decide (x ∈ l)))∧w' = w:=by
 have HI:=hdq (zfb v l x w hN hl)
 clear hN hl
 go_enter Tryz.func52,Tryz.ntmps52
 go_wp2_with fail
 refine HI.out.mono ?_
 rintro _ w1 ⟨rfl,rfl⟩
 go_wp2_with fail
 go_ret
 exact ⟨rfl,rfl⟩
theorem zpb (gb:Nat) (x y:Int) (w:World) (h:w.cell? ⟨gb,0,none⟩ = some (.int .u16 x)) :
  Calls Tryz.prog 90 #[.int .u16 y,.pointer (some ⟨gb,0,none⟩)] w fun e w'=>e = .returned (.bool (decide (y = x)))∧w' = w:=by
 by_cases c:y = x
 ·have e:decide (y = x) = true:=decide_eq_true c
  have q:(y == x) = true:=by simp [c]
  rw [e]
  clear c e
  go_enter Tryz.func90,Tryz.ntmps90
  go_wp2
  go_ret
  exact ⟨rfl,rfl⟩
 ·have e:decide (y = x) = false:=decide_eq_false c
  have q:(y == x) = false:=beq_eq_false_iff_ne.2 c
  rw [e]
  clear c e
  go_enter Tryz.func90,Tryz.ntmps90
  go_wp2
  go_ret
  exact ⟨rfl,rfl⟩
theorem zcz (b off c:Nat) (xs:List Int) (x:Int) (w:World) (hx:∀ i,i < xs.length→w.cell? ⟨b,off + i,none⟩ = some (.int .u16 (xs.getD i 0))) (hn:xs.length≤100000) :
  Calls Tryz.prog 53 #[.slice (some ⟨b,off,none⟩) xs.length c,.int .u16 x] w fun e w'=>∃ g cap,e = .returned (.slice (some ⟨g,0,none⟩) (dropU xs x).length cap)∧(∀ i,i < (dropU xs x).length→w'.cell? ⟨g,i,none⟩ = some (.int .u16 ((dropU xs x).getD i 0)))∧Below w.heap.size w w':=by
 have RB:=Row.new w #[.int .u16 x] 56
 have B0:=zaa (Below.refl _ w) (.cells #[.int .u16 x] 56)
 have HC:=hdq (zom b off xs.length c xs (w.alloc (.cells #[.int .u16 x] 56)) (fun i hi=>zae (hx i hi) B0) rfl hn)
 obtain ⟨gb,hgb⟩:∃ g,g = w.heap.size:=⟨_,rfl⟩
 have hbs:gb < (w.alloc (.cells #[.int .u16 x] 56)).heap.size:=by rw [hgb]; simp
 rw [← hgb] at RB
 have HGB:=hdq hgb
 have HB0:=hdq B0
 have HRB:=hdq RB
 have HBS:=hdq hbs
 have HN:=hdq hn
 have hmf:∀ (fn:Fn) (first cap:Array Value) (w:World),(Instr.makeFunc fn first cap).run Tryz.prog w = .ok (.func fn first cap) w:=fun _ _ _ _=>rfl
 clear hx hn B0 RB hbs
 go_enter Tryz.func53,Tryz.ntmps53
 go_wp2_with fail
 rw [← HGB.out]
 refine HC.out.mono ?_
 rintro _ w1 ⟨v,rfl,ho,hnil,hb⟩
 have RB1:=HRB.out.below hb
 have HB1:=hdq (zab HB0.out hb)
 have hbs1:w.heap.size≤(w.alloc (.cells #[.int .u16 x] 56)).heap.size:=by simp
 obtain ⟨g,cap,rfl,hg,hgl,hcap,hcm,hln,hH⟩:=Lib.holds_of_ownsRow (enc:=fun n:Int=>Value.int .u16 n) ho hnil
 have hne:gb ≠ g:=by have:=HBS.out; omega
 have hgw:w.heap.size≤g:=by omega
 have hlt1:xs.length≤9223372036854775807:=by have:=HN.out; omega
 have hsz:xs.toArray.size = xs.length:=by simp
 have hgbl:gb < w1.heap.size:=RB1.lt
 have hcell:w1.cell? ⟨gb,0,none⟩ = some (.int .u16 x):=RB1.cell 0
 have HD:=AnyE.slices_DeleteFunc laysDF (fun n:Int=>Value.int .u16 n) (fun _=>rfl) (fun y=>decide (y = x)) 90 #[.pointer (some ⟨gb,0,none⟩)] (enters_of Tryz.func90 (by kernel_rfl) rfl) 0 Tryz.zeroValue56 g 0 cap xs.toArray w1
  (fun W y hb=>by
   refine (zpb gb x y W (zae hcell hb)).mono ?_
   rintro _ _ ⟨rfl,rfl⟩
   exact ⟨rfl,0,rfl⟩)
  (fun n os dk y hdk=>by
   refine (zpb gb x y _ ?_).mono ?_
   ·unfold sortWorld
    rw [Sort.cell?_grow _ _ _ (show gb < _ by simp [Sort.putRow,Sort.mapBlock,Sort.ahead]; exact hgbl),Sort.cell?_putRow_other _ _ _ _ _ _ (.inl hne)]
    exact hcell
   ·rintro _ _ ⟨rfl,rfl⟩
    exact ⟨rfl,0,rfl⟩)
  hH (by rw [hsz]; exact hlt1) (by rw [hsz]; omega)
 rw [hsz] at HD
 have HDD:=hdq HD
 have HOW:=hdq ho
 have HGW:=hdq hgw
 clear HD ho hH hcell RB1 hb HC HB0 HRB hgb HGB HBS hbs1 hne hnil hgl hcm hsz hg hgbl hlt1
 go_wp2_with fail
 refine HDD.out.mono ?_
 rintro _ w2 ⟨rfl,q,rfl⟩
 have hlf:(dropU xs x).length≤xs.length:=List.length_filter_le _ _
 have how:=Lib.ownsRow_putRow (enc:=fun n:Int=>Value.int .u16 n) (q:=q) (k:=(dropU xs x).length) (ys:=dropU xs x ++ List.replicate (xs.length - (dropU xs x).length) 0) HOW.out (by rw [List.length_append,List.length_replicate]; omega) hlf
 rw [List.take_left'  rfl] at how
 have hb2:=Lib.below_putRow (enc:=fun n:Int=>Value.int .u16 n) (q:=q) (d:=(dropU xs x ++ List.replicate (xs.length - (dropU xs x).length) 0).toArray) HB1.out HGW.out
 go_wp2
 go_ret
 refine ⟨g,cap,rfl,?_,hb2⟩
 have hN:=(NsAt.of_own (k:=.u16) (e:=56) how).1
 obtain ⟨p,c2,e1,h2⟩:=hN
 injection e1 with e1 _ e3
 subst e1
 rcases h2 with h2 | ⟨b3,off3,e4,h3⟩
 ·intro i hi; rw [h2] at hi; simp at hi
 ·injection e4 with e4
  injection e4 with e5 e6
  subst e5
  subst e6
  intro i hi
  have:=h3 i hi
  rwa [Nat.zero_add] at this
theorem zlk {l:List Int} {i:Nat} {y:Int} (h:y ∈ l.take i):∃ t,t < i∧t < l.length∧l.getD t 0 = y:=by
 obtain ⟨t,ht,rfl⟩:=List.getElem_of_mem h
 rw [List.length_take] at ht
 exact ⟨t,by omega,by omega,by rw [List.getElem_take,List.getD_eq_getElem?_getD,List.getElem?_eq_getElem (by omega)]; rfl⟩
theorem zmr {l:List Int} {i:Nat} {y:Int} (h:y ∈ l.drop i):∃ t,i≤t∧t < l.length∧l.getD t 0 = y:=by
 obtain ⟨t,ht,rfl⟩:=List.getElem_of_mem h
 rw [List.length_drop] at ht
 exact ⟨i + t,by omega,by omega,by rw [List.getElem_drop,List.getD_eq_getElem?_getD,List.getElem?_eq_getElem (by omega)]; rfl⟩
theorem zme (l:List Int) (n:Int) (i:Nat) (hp:PosN l n i):l.filter (fun y=>decide (y < n)) = l.take i:=by
 have h1:(l.take i).filter (fun y=>decide (y < n)) = l.take i:=List.filter_eq_self.2 fun y hy=>by
  obtain ⟨t,h1,h2,rfl⟩:=zlk hy
  exact decide_eq_true (hp.2.1 t h1)
 have h2:(l.drop i).filter (fun y=>decide (y < n)) = []:=List.filter_eq_nil_iff.2 fun y hy=>by
  obtain ⟨t,h1,h2,rfl⟩:=zmr hy
  have:=hp.2.2 t h1 h2
  exact fun h=>by have h:=of_decide_eq_true h; omega
 rw [← List.take_append_drop i l,List.filter_append,h1,h2,List.append_nil,List.take_append_drop]
theorem zmm (l:List Int) (n:Int) (i j:Nat) (hp:PosN l n i) (hij:i≤j) (hj:∀ t,i≤t→t < j→t < l.length→l.getD t 0≤n) (hk:∀ t,j≤t→t < l.length→n < l.getD t 0):l.filter (fun y=>decide (n < y)) = l.drop j:=by
 have h1:(l.take j).filter (fun y=>decide (n < y)) = []:=List.filter_eq_nil_iff.2 fun y hy=>by
  obtain ⟨t,h1,h2,rfl⟩:=zlk hy
  by_cases c:t < i
  ·have:=hp.2.1 t c
   exact fun h=>by have h:=of_decide_eq_true h; omega
  ·have:=hj t (by omega) h1 h2
   exact fun h=>by have h:=of_decide_eq_true h; omega
 have h2:(l.drop j).filter (fun y=>decide (n < y)) = l.drop j:=List.filter_eq_self.2 fun y hy=>by
  obtain ⟨t,h1,h2,rfl⟩:=zmr hy
  exact decide_eq_true (hk t h1 h2)
 rw [← List.take_append_drop j l,List.filter_append,h1,h2,List.nil_append,List.take_append_drop]
theorem zpu (l:List Int) (x:Int) (i:Nat) (hr:NRise l) (hp:PosN l x i) (hno:¬ (i < l.length∧l.getD i 0 = x)):putU l x = l.take i ++ x :: l.drop i:=by
 unfold putU
 rw [zme l _ i hp,zmm l _ i i hp (Nat.le_refl _) (fun t a b=>by omega) fun t h1 h2=>?_]
 by_cases c:t = i
 ·subst c
  have:=hp.2.2 t h1 h2
  by_cases e:l.getD t 0 = x
  ·exact absurd ⟨h2,e⟩ hno
  ·omega
 ·have a:=hp.2.2 i (Nat.le_refl _) (by omega)
  have b:=hr i t (by omega) h2
  omega
theorem zlr (l:List Int) (x:Int) (i:Nat) (hr:NRise l) (hp:PosN l x i) (hi:i < l.length) (he:l.getD i 0 = x):putU l x = l:=by
 unfold putU
 rw [zme l _ i hp,zmm l _ i (i + 1) hp (by omega) (fun t a b c=>by rw [show t = i by omega]; omega) fun t h1 h2=>by have:=hr i t (by omega) h2; omega]
 have e:l.drop i = x :: l.drop (i + 1):=by
  rw [List.drop_eq_getElem_cons hi,← he,List.getD_eq_getElem?_getD,List.getElem?_eq_getElem hi]; rfl
 rw [← e,List.take_append_drop]
theorem zfj (b off c:Nat) (xs:List Int) (x:Int) (w:World) (hx:∀ i,i < xs.length→w.cell? ⟨b,off + i,none⟩ = some (.int .u16 (xs.getD i 0))) (hn:xs.length≤100000) (hr:NRise xs) :
  Calls Tryz.prog 54 #[.slice (some ⟨b,off,none⟩) xs.length c,.int .u16 x] w fun e w'=>∃ v',e = .returned v'∧w'.ownsRow w.heap.size 56 1 v' (putU xs x).length (nv .u16 (putU xs x))∧Below w.heap.size w w':=by
 obtain ⟨p,hp⟩:=zkg xs x hr
 by_cases hno:p < xs.length∧xs.getD p 0 = x
 ·rw [zlr xs x p hr hp hno.1 hno.2]
  have HS:=hdq (zgj (.slice (some ⟨b,off,none⟩) xs.length c) xs x p w ⟨_,c,rfl,.inr ⟨b,off,rfl,hx⟩⟩ (by omega) hp)
  have e0:(decide (p < xs.length) && decide (xs.getD p 0 = x)) = true:=by rw [← Bool.decide_and]; exact decide_eq_true hno
  rw [e0] at HS
  have HX:=hdq hx
  have HN:=hdq hn
  clear hx hn hp hno e0 hr
  go_enter Tryz.func54,Tryz.ntmps54
  go_wp2_with fail
  refine HS.out.mono ?_
  rintro _ w1 ⟨rfl,hb⟩
  have HB1:=hdq hb
  clear hb HS
  go_wp2_with fail
  refine (zjn b off xs.length c xs w1 (fun i hi=>zae (HX.out i hi) HB1.out) rfl HN.out).mono ?_
  rintro _ w2 ⟨v,rfl,ho,hb⟩
  have HB2:=hdq (zab HB1.out hb)
  have HO:=hdq (ownMono ho HB1.out.size)
  clear hb ho
  go_wp2_with fail
  go_ret
  exact ⟨_,rfl,HO.out,HB2.out⟩
 ·have e:=zpu xs x p hr hp hno
  have hl:(putU xs x).length = xs.length + 1:=by rw [e,List.length_append,List.length_cons,List.length_take,List.length_drop]; have:=hp.1; omega
  rw [hl,e]
  exact zli b off c p xs x w hx hn hp hno
end Go.Proofs.YtlpdfglbdijkoaaGreatDoor