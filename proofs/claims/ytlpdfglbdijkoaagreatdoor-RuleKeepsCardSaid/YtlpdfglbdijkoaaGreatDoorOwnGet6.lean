/-
  Own texts, several in one (Get6, RegM, Make6, IdxU).
-/
import Derived.Test.YtlpdfglbdijkoaaGreatDoorMrg12
import Derived.Test.YtlpdfglbdijkoaaGreatDoorMrg14
import Derived.Test.YtlpdfglbdijkoaaGreatDoorMrg11
import Derived.Test.YtlpdfglbdijkoaaGreatDoorMrg19
import Derived.Test.YtlpdfglbdijkoaaGreatDoorMrg26
import Derived.Test.YtlpdfglbdijkoaaGreatDoorMrg23
import Derived.Test.YtlpdfglbdijkoaaGreatDoorMrg10
namespace Go.Proofs.YtlpdfglbdijkoaaGreatDoor
open Go.RowKit
set_option linter.unusedVariables false
set_option linter.unusedSimpArgs false
theorem zrt (l:List Ac) (n:Nat) (h:∀ t,t < l.length→(l.getD t ac0).code ≠ n):getC l n = none:=by
 unfold getC
 rw [List.find?_eq_none]
 intro x hx
 obtain ⟨t,ht,rfl⟩:=List.getElem_of_mem hx
 have:=h t ht
 rw [List.getD_eq_getElem?_getD,List.getElem?_eq_getElem ht] at this
 simpa using this
theorem zoa (l:List Ac) (n k:Nat) (hk:k < l.length) (h:∀ t,t < k→(l.getD t ac0).code ≠ n) (he:(l.getD k ac0).code = n):getC l n = some (l.getD k ac0):=by
 have hget:∀ t (h:t < l.length),l[t] = l.getD t ac0:=fun t h=>by rw [List.getD_eq_getElem?_getD,List.getElem?_eq_getElem h]; rfl
 unfold getC
 rw [← hget k hk,List.find?_eq_some_iff_getElem]
 refine ⟨by rw [hget k hk]; simpa using he,k,hk,rfl,fun j hj=>?_⟩
 have:=h j hj
 rw [← hget j (by omega)] at this
 simpa using this
set_option maxHeartbeats 2000000 in
set_option maxRecDepth 100000 in
theorem zug (a:Option Addr) (cap:Nat) (l:List Ac) (n:Nat) (w:World) (hE:ElsAt ac 4 ac0 w a l) (hl:l.length≤1000000) :
  Calls Tryz.prog 68 #[.slice a l.length cap,.int .u32 (n:Int)] w fun e w' =>
   e = .returned (.tuple #[.agg (ac ((getC l n).getD ac0)).toArray,.bool (getC l n).isSome])∧Below w.heap.size w w':=by
 have HE:=hdq hE
 have HL:=hdq hl
 have B0:=zaa (Below.refl _ w) (.cells (ac ac0).toArray 61)
 have R0:=Row.new w (ac ac0).toArray 61
 clear hE hl
 go_enter Tryz.func68,Tryz.ntmps68
 go_wp2_with fail
 change Row (w.alloc (.cells #[.int .u32 0,.string ⟨#[]⟩,.int .u8 0,.int .u32 0] 61)) _ _ _ at R0
 change Below _ w (w.alloc (.cells #[.int .u32 0,.string ⟨#[]⟩,.int .u8 0,.int .u32 0] 61)) at B0
 generalize w.alloc (.cells #[.int .u32 0,.string ⟨#[]⟩,.int .u8 0,.int .u32 0] 61) = w1 at *
 obtain ⟨g0,hg0⟩:∃ g,g = w.heap.size:=⟨_,rfl⟩
 rw [← hg0] at R0 ⊢
 have HR0:=hdq R0
 have HB0:=hdq B0
 have HG0:=hdq hg0
 clear R0 B0 hg0
 go_loopw [10] (fun iv wr=>∃ k:Nat,k≤l.length∧iv = .int .i64 (k:Int)∧(∀ t,t < k→(l.getD t ac0).code ≠ n)∧Row wr g0 (ac ac0).toArray 61∧Below w.heap.size w wr) (fun iv _=>l.length - (intOf iv).toNat)
 case atStart=>exact ⟨0,by omega,rfl,fun t ht=>by omega,HR0.out,HB0.out⟩
 case round =>
  obtain ⟨k,hk,rfl,hno,R,BB⟩:=hrel
  have HR:=hdq R
  have HB:=hdq BB
  have HN:=hdq hno
  clear R BB hno
  by_cases hlt:k < l.length
  ·have i0:(0:Int)≤(k:Int):=by omega
   have i1:(k:Int) < (l.length:Int):=by omega
   obtain ⟨b,off,rfl,hcc⟩:∃ b off,a = some ⟨b,off,none⟩∧∀ i,i < l.length→w.rangeAt b (off + i * 4) (ac (l.getD i ac0)):=by
    rcases HE.out with h | h
    ·rw [h] at hlt; simp at hlt
    ·exact h
   have ck:=zah (hcc k hlt) HB.out
   obtain ⟨x,hx⟩:∃ x,x = l.getD k ac0:=⟨_,rfl⟩
   rw [← hx] at ck
   have HX:=hdq hx
   have HLT:=hdq hlt
   have e5:IntKind.i64.wrap ((k:Int) + 1) = (k:Int) + 1:=by rw [IntKind.wrap_i64]; have:=HL.out; omega
   have c0:wr.cell? ⟨b,off + k * 4,none⟩ = some (.int .u32 (x.code:Int)):=ck 0 _ rfl
   have c1:wr.cell? ⟨b,off + k * 4 + 1,none⟩ = some (.string x.name):=ck 1 _ rfl
   have c2:wr.cell? ⟨b,off + k * 4 + 2,none⟩ = some (.int .u8 (x.kind:Int)):=ck 2 _ rfl
   have c3:wr.cell? ⟨b,off + k * 4 + 3,none⟩ = some (.int .u32 (x.par:Int)):=ck 3 _ rfl
   clear hcc ck hx hlt hk
   by_cases hc:x.code = n
   ·have q1:((x.code:Int) == (n:Int)) = true:=by simp [hc]
    have HC:=hdq hc
    clear hc
    go_wp2_with (first | (refine zad rfl 61 _ _ rfl g0 (ac x).toArray rfl rfl (HR.out.alloc _) (zcm x) rfl (zjx x) rfl ?_; intro w9 RZ S9))
    have d0:w9.cell? ⟨g0,0,none⟩ = some (.int .u32 (x.code:Int)):=RZ.cell 0
    have d1:w9.cell? ⟨g0,1,none⟩ = some (.string x.name):=RZ.cell 1
    have d2:w9.cell? ⟨g0,2,none⟩ = some (.int .u8 (x.kind:Int)):=RZ.cell 2
    have d3:w9.cell? ⟨g0,3,none⟩ = some (.int .u32 (x.par:Int)):=RZ.cell 3
    have hg:getC l n = some x:=by rw [HX.out]; exact zoa l n k HLT.out HN.out (by rw [← HX.out]; exact HC.out)
    refine bodyPost_ret (v:=.tuple #[.agg (ac x).toArray,.bool true]) (by simp [results,Tryz.results68,go_sem,ac,d0,d1,d2,d3]) rfl ⟨by rw [hg]; rfl,S9.below (zaa HB.out _) (by rw [HG0.out]; exact Nat.le_refl _)⟩
   ·have q1:((x.code:Int) == (n:Int)) = false:=beq_eq_false_iff_ne.2 (by omega)
    have HC:=hdq hc
    clear hc
    go_wp2_with fail
    refine ⟨⟨k + 1,by have:=HLT.out; omega,by simp,fun t ht=>?_,HR.out.alloc _,zaa HB.out _⟩,by have:=HLT.out; simp [intOf]; omega⟩
    by_cases c:t < k
    ·exact HN.out t c
    ·obtain rfl:t = k:=by omega
     rw [← HX.out]
     exact HC.out
  ·have i1:¬ (k:Int) < (l.length:Int):=by omega
   have hg:getC l n = none:=zrt l n (fun t ht=>HN.out t (by omega))
   have HGN:=hdq hg
   have R:=HR.out
   clear hg hk hlt
   go_wp2_with (first | (refine zad rfl 61 _ _ rfl g0 (ac ac0).toArray rfl rfl R (zcm ac0) rfl (zjx ac0) rfl ?_; intro w9 RZ S9))
   have d0:w9.cell? ⟨g0,0,none⟩ = some (.int .u32 0):=RZ.cell 0
   have d1:w9.cell? ⟨g0,1,none⟩ = some (.string ByteArray.empty):=RZ.cell 1
   have d2:w9.cell? ⟨g0,2,none⟩ = some (.int .u8 0):=RZ.cell 2
   have d3:w9.cell? ⟨g0,3,none⟩ = some (.int .u32 0):=RZ.cell 3
   refine bodyPost_ret (v:=.tuple #[.agg (ac ac0).toArray,.bool false]) (by simp [results,Tryz.results68,go_sem,ac,ac0,d0,d1,d2,d3]) rfl ⟨by rw [HGN.out]; rfl,S9.below HB.out (by rw [HG0.out]; exact Nat.le_refl _)⟩
theorem zjv (W:World) (B:Nat) (ty:TypeId) (v:Value) (n:Nat) (xs:List Nat) (hown:W.ownsRow B 44 1 v n (uv xs)) (g:Nat) (z:Nat) (RG:Row W g #[.int .u32 (z:Int)] 44) (hn:n≤100000) (hB:B≤W.heap.size) :
  ∃ v' w',(Builtin.append_ #[145,145] ty #[v,.slice (some ⟨g,0,none⟩) 1 1]).run Tryz.prog W = .ok v' w'∧w'.ownsRow B 44 1 v' (n + 1) (uv (xs ++ [z]))∧Below B W w'∧∀ b cs t,Row W b cs t→t ≠ 44→Row w' b cs t:=by
 obtain ⟨i,hi,h1,h2,h3⟩:=zmi
 obtain ⟨v',w',hr,k2,k3,k4,k5⟩:=run_append_own_at (P:=Tryz.prog) W B 145 ty 44 i (.int .u32 0) 1 4 Tryz.underlying145 hi h1 h2 h3 rfl (by omega) v n (uv xs) hown ⟨g,0,none⟩ 1 1 [.int .u32 (z:Int)] rfl (fun j u hj=>by
  rw [zbo,Nat.zero_add,RG.cell j]
  simpa using hj) (fun u hu=>by simp at hu; subst hu; rfl) (by unfold maxLen; omega) (by omega) hB
 refine ⟨v',w',hr,by rw [zuw]; exact k2,(Below.refl B W).grown k3 hB (fun k hk=>(zbc hown hk).1),fun b cs t R ht=>(k3.block b R.lt ?_).trans R⟩
 intro e
 obtain ⟨cs2,h⟩:=zbg hown e.symm
 have h2:=h.symm.trans R
 simp at h2
 exact ht h2.2.symm
theorem zjg {l:List Ac} {n:Nat} {x:Ac} (h:getC l n = some x):x.code = n:=by
 have:=List.find?_some h
 simpa using this
set_option maxHeartbeats 2000000 in
set_option maxRecDepth 100000 in
theorem zsm (a:Option Addr) (cap:Nat) (l:List Ac) (n:Nat) (w:World) (hE:ElsAt ac 4 ac0 w a l) (hl:l.length≤1000000) :
  Calls Tryz.prog 84 #[.slice a l.length cap,.int .u32 (n:Int)] w fun e w'=>∃ v,e = .returned v∧w'.ownsRow w.heap.size 44 1 v (wayO l 13 (getC l n)).length (uv (wayO l 13 (getC l n)))∧Below w.heap.size w w':=by
 have GET:=hdq fun (m:Nat) W (hb:Below w.heap.size w W)=>zug a cap l m W (hE.below hb) hl
 clear hE hl
 obtain ⟨res,hres⟩:∃ r,r = wayO l 13 (getC l n):=⟨_,rfl⟩
 rw [← hres]
 have HRES:=hdq hres
 clear hres
 go_enter Tryz.func84,Tryz.ntmps84
 go_wp2_with fail
 go_loopw [1,5] (fun cv sv wr=>∃ (out:List Nat) (m:Nat),cv = .int .u32 (m:Int)∧wr.ownsRow w.heap.size 44 1 sv out.length (uv out)∧out ++ wayO l (13 - out.length) (getC l m) = res∧out.length≤13∧Below w.heap.size w wr) (fun _ sv _=>13 - slLen sv)
 case atStart=>exact ⟨[],n,rfl,⟨rfl,.inl ⟨rfl,rfl⟩⟩,HRES.out.symm,by simp,Below.refl _ _⟩
 case round =>
  obtain ⟨out,m,rfl,hown,hfull,hlen,BB⟩:=hrel
  have HOWN:=hdq hown
  have HF:=hdq hfull
  have HLN:=hdq hlen
  have HBB:=hdq BB
  obtain ⟨sp,sc,rfl⟩:=zaj hown
  clear hown hfull hlen BB
  by_cases h12:out.length < 13
  ·have h12i:(out.length:Int) < 13:=by omega
   have H12:=hdq h12
   clear h12
   go_wp2_with fail
   refine (GET.out m wr HBB.out).mono ?_
   rintro _ w1 ⟨rfl,hb1⟩
   have HB1:=hdq (zab HBB.out hb1)
   have HOWN1:=hdq (zai HOWN.out hb1)
   obtain ⟨cu,hcu⟩:∃ c,c = getC l m:=⟨_,rfl⟩
   rw [← hcu]
   have HCU:=hdq hcu
   clear hb1 hcu
   rcases cu with _ | x
   ·have hf:out = res:=by have:=HF.out; rwa [← HCU.out,zhx,List.append_nil] at this
    have HF2:=hdq hf
    clear hf
    simp only [Option.getD_none,Option.isSome_none]
    unfold ac
    go_wp2_with fail
    go_ret
    rw [← HF2.out]
    exact ⟨_,rfl,zai HOWN1.out (zaa (Below.refl _ w1) _),zaa HB1.out _⟩
   ·simp only [Option.getD_some,Option.isSome_some]
    unfold ac
    have R0:=Row.new w1 (ac x).toArray 61
    have B0:=zaa HB1.out (.cells (ac x).toArray 61)
    have O0:=zan HOWN1.out (.cells (ac x).toArray 61)
    have Z0:(w1.alloc (.cells (ac x).toArray 61)).heap.size = w1.heap.size + 1:=by simp
    obtain ⟨wx,hwx⟩:∃ wx,wx = w1.alloc (.cells (ac x).toArray 61):=⟨_,rfl⟩
    rw [← hwx] at R0 B0 O0 Z0
    have HWX:=hdq hwx
    have R1:=Row.new' wx #[.int .u32 (m:Int)] 44 Z0.symm
    have R01:=R0.alloc (.cells #[.int .u32 (m:Int)] 44)
    have B1:=zaa B0 (.cells #[.int .u32 (m:Int)] 44)
    obtain ⟨v6,w6,hr6,ho6,hb6,hk6⟩:=zjv (wx.alloc (.cells #[.int .u32 (m:Int)] 44)) w.heap.size 145 (.slice sp out.length sc) out.length out (zan O0 _) (w1.heap.size + 1) m R1 (by have:=HLN.out; omega) B1.size
    have R6:=hk6 _ _ _ R01 (by show ¬ (61:Nat) = 44; omega)
    have f3:w6.cell? ⟨w1.heap.size,3,none⟩ = some (.int .u32 (x.par:Int)):=R6.cell 3
    have HR6:=hdq hr6
    have HO6:=hdq ho6
    have HB6:=hdq (B1.trans hb6)
    subst hwx
    clear hr6 ho6 hb6 hk6 R0 B0 O0 Z0 R1 R01 B1 R6 HWX
    go_wp2_with (first | (at_builtin; refine zbn rfl (zao _ _ _ _ rfl rfl rfl HR6.out) ?_))
    have hl13:=H12.out
    have hv:out.length + 1 = (out ++ [m]).length:=by simp
    have ho:=HO6.out
    rw [hv] at ho
    refine ⟨⟨out ++ [m],x.par,rfl,ho,?_,by simp; omega,HB6.out⟩,?_⟩
    ·have h:=HF.out
     obtain ⟨f,hf⟩:∃ f,13 - out.length = f + 1:=⟨12 - out.length,by omega⟩
     rw [hf,← HCU.out] at h
     rw [← h,List.append_assoc,List.length_append,show 13 - (out.length + [m].length) = f by simp; omega,← zjg HCU.out.symm]
     rfl
    ·obtain ⟨p2,c2,rfl⟩:=zaj ho
     simp [slLen]
     omega
  ·have h12i:¬ (out.length:Int) < 13:=by omega
   have hf:out = res:=by
    have h:=HF.out
    rw [show 13 - out.length = 0 by have:=HLN.out; omega] at h
    have e:∀ z,wayO l 0 z = []:=fun z=>by cases z <;> rfl
    rwa [e,List.append_nil] at h
   have HF2:=hdq hf
   clear hf h12
   go_wp2_with fail
   go_ret
   rw [← HF2.out]
   exact ⟨_,rfl,HOWN.out,HBB.out⟩
theorem zrz (a:Option Addr) (cap:Nat) (l:List Ac) (n:Nat) (w:World) (hE:ElsAt ac 4 ac0 w a l) (hl:l.length≤1000000) :
  Calls Tryz.prog 49 #[.slice a l.length cap,.int .u32 (n:Int)] w fun e w'=>e = .returned (.int .i64 ((wayO l 13 (getC l n)).length:Int))∧Below w.heap.size w w':=by
 have HW:=hdq (zsm a cap l n w hE hl)
 clear hE hl
 generalize wayO l 13 (getC l n) = res at *
 go_enter Tryz.func49,Tryz.ntmps49
 go_wp2_with fail
 refine HW.out.mono ?_
 rintro _ w1 ⟨v,rfl,ho,hb⟩
 obtain ⟨p,c,rfl⟩:=zaj ho
 clear HW ho
 go_wp2_with fail
 go_ret
 exact ⟨rfl,hb⟩
def lastOk (ops:Array Oper) (f s:Nat):Bool :=
 decide (s < ops.size) && (List.range ops.size).all fun i=>waits ops f s i
section
variable {P:Program} {Q:Exit→Act→World→Prop} {ops:Array Oper} {a0:Act}
def YieldsX (P:Program) (ops:Array Oper) (T:Value→World→Prop) (o:Oper) (F:Act) (w:World):Prop :=
 (Region.wanted o (yielded ops F.tmps) = false∧T undef w) ∨
 (Region.wanted o (yielded ops F.tmps) = true∧∃ v w',(execOp F.eval o).run P w = .ok (.value v) w'∧T v w') ∨
 (Region.wanted o (yielded ops F.tmps) = true∧∃ w',(execOp F.eval o).run P w = .ok .skip w'∧T undef w') ∨
 (Region.wanted o (yielded ops F.tmps) = true∧∃ f args w',(execOp F.eval o).run P w = .ok (.enter f args) w'∧Calls P f args w' fun e w''=>∃ v,e = .returned v∧T v w'')
theorem zgw {T T':Value→World→Prop} {o:Oper} {F:Act} {w:World} (h:YieldsX P ops T o F w) (hT:∀ v w',T v w'→T' v w'):YieldsX P ops T' o F w:=by
 rcases h with ⟨h1,h2⟩ | ⟨h1,v,w',h2,h3⟩ | ⟨h1,w',h2,h3⟩ | ⟨h1,f,args,w',h2,h3⟩
 ·exact .inl ⟨h1,hT _ _ h2⟩
 ·exact .inr (.inl ⟨h1,v,w',h2,hT _ _ h3⟩)
 ·exact .inr (.inr (.inl ⟨h1,w',h2,hT _ _ h3⟩))
 ·exact .inr (.inr (.inr ⟨h1,f,args,w',h2,h3.mono fun e w'' ⟨v,a,b⟩=>⟨v,a,hT _ _ b⟩⟩))
theorem zbe {id n:Nat} (s f:Nat) (hm:P.follows .mixedOrders = true) (R:World→World→Prop) (S:World→Prop) (G:Nat→World→Value→Prop) (A:(Nat→Value)→Value→World→Prop) {w0:World} (hok:regOk ops = true) (hset:regSetT ops s a0.tmps.size = true) (hlast:lastOk ops f s = true)
  (h0:S w0.drew) (hn:ops.size = n) (hS:∀ w w',S w→R w w'→S w') (hG:∀ i w w' v,R w w'→G i w v→G i w' v)
  (h:∀ (F:(Nat→Value)→Act) (Fz:(Nat→Value)→Value→Act),(∀ c,fill ops (fun j=>j != s) c a0 n = F c)→(∀ c v,fill ops (fun _=>true) (updV c s v) a0 n = Fz c v) →
   (∀ (i:Nat) (o:Oper),ops[i]? = some o→i ≠ s→∀ c w,S w→(∀ j,(afterOf ops i).contains j = true→j ≠ s→G j w (c j))→YieldsX P ops (fun v w'=>R w w'∧G i w' v) o (F c) w) ∧
   (∀ o:Oper,ops[s]? = some o→∀ c w,S w→(∀ j,j < n→j ≠ s→G j w (c j))→YieldsX P ops (fun v w'=>A c v w') o (F c) w) ∧
   (∀ c v w,A c v w→Q .normal (Fz c v) w)):(Code.region id ops true).wp P Q a0 w0:=by
 subst hn
 obtain ⟨hk,hs,hq⟩:=h _ _ (fun c=>rfl) (fun c v=>rfl)
 have hdst:=zco hok
 unfold lastOk at hlast
 simp only [Bool.and_eq_true,decide_eq_true_eq] at hlast
 obtain ⟨t1,t8⟩:=hlast
 have t8':∀ i,i < ops.size→waits ops f s i = true:=fun i hi=>List.all_eq_true.1 t8 i (by simpa using hi)
 refine zdw (n:=ops.size) hm (fun L V w=>(∀ j k,j < ops.size→L j = true→(afterOf ops j).contains k = true→L k = true)∧((L s = false∧S w∧∀ j,j < ops.size→j ≠ s→L j = true→G j w (V j))∨(L s = true∧∃ c,(∀ j,j < ops.size→j ≠ s→c j = V j)∧A c (V s) w))) hok ?_ ?_ rfl ?_
 ·exact ⟨fun j k hj hL _=>by simp at hL; omega,.inl ⟨by simp; omega,h0,fun j hj _ hL=>by simp at hL; omega⟩⟩
 ·intro i o ho L V w hL hpre hI
  obtain ⟨hC,hP⟩:=hI
  have hlt:i < ops.size:=by
   by_cases c:i < ops.size
   ·exact c
   ·rw [Array.getElem?_eq_none (by omega)] at ho; cases ho
  have hLs:L s = false:=by
   cases hc:L s with
   | false=>rfl
   | true =>
    rw [zbr hC f s i t1 hc (t8' i hlt)] at hL
    cases hL
  obtain ⟨hSw,hGw⟩:S w∧∀ j,j < ops.size→j ≠ s→L j = true→G j w (V j):=by
   rcases hP with ⟨_,b,c⟩ | ⟨e,_⟩
   ·exact ⟨b,c⟩
   ·rw [hLs] at e; cases e
  obtain ⟨F,hF⟩:∃ F,F = fill ops (fun j=>j != s) V a0 ops.size:=⟨_,rfl⟩
  obtain ⟨a,haa⟩:∃ a,a = fill ops L V a0 ops.size:=⟨_,rfl⟩
  rw [← haa]
  unfold regSetT at hset
  have hst:=List.all_eq_true.1 hset i (by simpa using hlt)
  rw [ho] at hst
  simp only [Option.map_some,Option.getD_some,Bool.and_eq_true] at hst
  obtain ⟨⟨hsel,hops⟩,hgd⟩:=hst
  have hx:execOp a.eval o = execOp F.eval o:=by
   refine execOp_congr o ?_ ?_
   ·intro cs b e
    rw [e] at hsel
    cases hsel
   ·intro x hx
    have h1:=List.all_eq_true.1 hops x (by simpa using hx)
    rw [hF]
    cases x with
    | tmp t =>
     dsimp only at h1
     rw [Bool.and_eq_true,decide_eq_true_eq] at h1
     rw [haa]
     exact zbm hdst t h1.1 h1.2 hpre hLs (fun _ _ _=>rfl)
    | _=>rfl
  have hw:Region.wanted o (yielded ops a.tmps) = Region.wanted o (yielded ops F.tmps):=by
   unfold Region.wanted
   cases hg:o.guard with
   | none=>rfl
   | some gw =>
    obtain ⟨g,want⟩:=gw
    dsimp only
    rw [zbq,zbq]
    rw [hg] at hgd
    dsimp only at hgd
    cases hds:dstAt ops g with
    | none=>rfl
    | some t =>
     rw [hds] at hgd
     dsimp only at hgd ⊢
     rw [Bool.and_eq_true,decide_eq_true_eq] at hgd
     have h2:=zbm (V:=V) (vals:=V) hdst t hgd.1 hgd.2 hpre hLs (fun _ _ _=>rfl)
     rw [← hF,← haa] at h2
     have h3:a.tmps.getD t undef = F.tmps.getD t undef:=h2
     rw [h3]
  have hC':∀ j k,j < ops.size→Upd L i j = true→(afterOf ops j).contains k = true→Upd L i k = true:=fun j k hj hU hk=>by
   by_cases c:j = i
   ·have e:afterOf ops i = (o.after.toList.filter (Region.binds .any)).map (·.on):=by unfold afterOf; rw [ho]
    rw [c,e] at hk
    have:=hpre k hk
    unfold Upd
    rw [this]
    rfl
   ·have:=hC j k hj (by simpa [Upd,c] using hU) hk
    unfold Upd
    rw [this]
    rfl
  have hd:dstAt ops i = o.dst:=by unfold dstAt; rw [ho]; rfl
  have hU:∀ j,j ≠ i→Upd L i j = L j:=fun j c=>by unfold Upd; simp [c]
  have hUi:Upd L i i = true:=by unfold Upd; simp
  have hVi:∀ v,updV V i v i = v:=fun v=>by unfold updV; simp
  have hVo:∀ v j,j ≠ i→updV V i v j = V j:=fun v j c=>by unfold updV; simp [c]
  unfold wpOp
  simp only [ho]
  rw [hw,hd]
  suffices hy:YieldsX P ops (fun v w'=>(∀ j k,j < ops.size→Upd L i j = true→(afterOf ops j).contains k = true→Upd L i k = true)∧((Upd L i s = false∧S w'∧∀ j,j < ops.size→j ≠ s→Upd L i j = true→G j w' (updV V i v j))∨(Upd L i s = true∧∃ c,(∀ j,j < ops.size→j ≠ s→c j = updV V i v j)∧A c (updV V i v s) w'))) o F w by
   rcases hy with ⟨h1,h2⟩ | ⟨h1,v,w',h2,h3⟩ | ⟨h1,w',h2,h3⟩ | ⟨h1,fn,args,w',h2,h3⟩
   ·rw [if_neg (by rw [h1]; simp)]
    exact ⟨undef,rfl,h2⟩
   ·rw [if_pos h1]
    refine .inl ?_
    unfold Oper.wp
    rw [hx,h2]
    exact ⟨v,rfl,h3⟩
   ·rw [if_pos h1]
    refine .inl ?_
    unfold Oper.wp
    rw [hx,h2]
    exact ⟨undef,rfl,h3⟩
   ·rw [if_pos h1]
    refine .inl ?_
    unfold Oper.wp
    rw [hx,h2,Oper.upon_enter]
    refine h3.mono ?_
    rintro e w'' ⟨v,rfl,hS'⟩
    exact ⟨v,rfl,hS'⟩
  by_cases cs:i = s
  ·subst cs
   have hall:∀ j,j < ops.size→j ≠ i→L j = true:=fun j hj hne=>by
    have hw2:=t8' j hj
    cases f with
    | zero =>
     have:i = j:=by simpa [waits] using hw2
     exact absurd this.symm hne
    | succ f =>
     unfold waits at hw2
     rw [Bool.or_eq_true] at hw2
     rcases hw2 with e | e
     ·exact absurd (by simpa using e) (Ne.symm hne)
     ·obtain ⟨k,hk1,hjw⟩:=List.any_eq_true.1 e
      have hLk:L k = true:=hpre k (by
       have e:afterOf ops i = (o.after.toList.filter (Region.binds .any)).map (·.on):=by unfold afterOf; rw [ho]
       rw [← e]; simpa using hk1)
      by_cases hjs:k < ops.size
      ·exact zbr hC f k j hjs hLk hjw
      ·by_cases ejm:k = j
       ·rw [← ejm]; exact hLk
       ·rw [zda f k j hjs ejm] at hjw; cases hjw
   have hy:=hs o ho V w hSw (fun j hj hne=>hGw j hj hne (hall j hj hne))
   rw [← hF] at hy
   refine zgw hy (fun v w' hA=>⟨hC',.inr ⟨hUi,V,fun j hj hne=>(hVo v j hne).symm,by rw [hVi]; exact hA⟩⟩)
  ·have hy:=hk i o ho cs V w hSw (fun j hj hne=>by
    have hLj:L j = true:=hpre j (by
     have e:afterOf ops i = (o.after.toList.filter (Region.binds .any)).map (·.on):=by unfold afterOf; rw [ho]
     rw [← e]; exact hj)
    have hjs:j < ops.size:=by
     have e:afterOf ops i = (o.after.toList.filter (Region.binds .any)).map (·.on):=by unfold afterOf; rw [ho]
     rw [e] at hj
     simp at hj
     obtain ⟨ed,⟨m1,m2⟩,hon⟩:=hj
     have:=zbv hok i o ho ed m1 m2
     omega
    exact hGw j hjs hne hLj)
   rw [← hF] at hy
   refine zgw hy (fun v w' ⟨hB,hGv⟩=>⟨hC',.inl ⟨by rw [hU s (Ne.symm cs)]; exact hLs,hS w w' hSw hB,fun j hj hne hLj=>?_⟩⟩)
   by_cases c:j = i
   ·rw [c,hVi]; exact hGv
   ·rw [hVo _ j c]
    rw [hU j c] at hLj
    exact hG j w w' _ hB (hGw j hj hne hLj)
 ·intro V w hI
  obtain ⟨_,hP⟩:=hI
  rcases hP with ⟨h1,_⟩ | ⟨_,c,hc,hA⟩
  ·cases h1
  ·have e:fill ops (fun _=>true) V a0 ops.size = fill ops (fun _=>true) (updV c s (V s)) a0 ops.size:=by
    refine zca ops.size fun j hj=>⟨rfl,fun _=>?_⟩
    unfold updV
    by_cases c1:j = s
    ·rw [if_pos c1,c1]
    ·rw [if_neg c1]; exact (hc j hj c1).symm
   rw [e]
   exact hq c (V s) w hA
theorem zim {id n:Nat} (s f:Nat) (hm:P.follows .mixedOrders = true) (R:World→World→Prop) (S:(Nat→Bool)→World→Prop) (G:Nat→World→Value→Prop) (A:(Nat→Value)→Value→World→Prop) {w0:World} (hok:regOk ops = true) (hset:regSetT ops s a0.tmps.size = true) (hlast:lastOk ops f s = true)
  (h0:S (fun i=>decide (n≤i)) w0.drew) (hn:ops.size = n) (hG:∀ i w w' v,R w w'→G i w v→G i w' v)
  (h:∀ (F:(Nat→Value)→Act) (Fz:(Nat→Value)→Value→Act),(∀ c,fill ops (fun j=>j != s) c a0 n = F c)→(∀ c v,fill ops (fun _=>true) (updV c s v) a0 n = Fz c v) →
   (∀ (i:Nat) (o:Oper),ops[i]? = some o→i ≠ s→∀ c w L,L i = false→(∀ m,m < n→waits ops f m i = true→L m = false)→S L w→(∀ j,(afterOf ops i).contains j = true→j ≠ s→G j w (c j))→YieldsX P ops (fun v w'=>R w w'∧G i w' v∧S (Upd L i) w') o (F c) w) ∧
   (∀ o:Oper,ops[s]? = some o→∀ c w L,(∀ j,j < n→j ≠ s→L j = true)→S L w→(∀ j,j < n→j ≠ s→G j w (c j))→YieldsX P ops (fun v w'=>A c v w') o (F c) w) ∧
   (∀ c v w,A c v w→Q .normal (Fz c v) w)):(Code.region id ops true).wp P Q a0 w0:=by
 subst hn
 obtain ⟨hk,hs,hq⟩:=h _ _ (fun c=>rfl) (fun c v=>rfl)
 have hdst:=zco hok
 unfold lastOk at hlast
 simp only [Bool.and_eq_true,decide_eq_true_eq] at hlast
 obtain ⟨t1,t8⟩:=hlast
 have t8':∀ i,i < ops.size→waits ops f s i = true:=fun i hi=>List.all_eq_true.1 t8 i (by simpa using hi)
 refine zdw (n:=ops.size) hm (fun L V w=>(∀ j k,j < ops.size→L j = true→(afterOf ops j).contains k = true→L k = true)∧((L s = false∧S L w∧∀ j,j < ops.size→j ≠ s→L j = true→G j w (V j))∨(L s = true∧∃ c,(∀ j,j < ops.size→j ≠ s→c j = V j)∧A c (V s) w))) hok ?_ ?_ rfl ?_
 ·exact ⟨fun j k hj hL _=>by simp at hL; omega,.inl ⟨by simp; omega,h0,fun j hj _ hL=>by simp at hL; omega⟩⟩
 ·intro i o ho L V w hL hpre hI
  obtain ⟨hC,hP⟩:=hI
  have hlt:i < ops.size:=by
   by_cases c:i < ops.size
   ·exact c
   ·rw [Array.getElem?_eq_none (by omega)] at ho; cases ho
  have hLs:L s = false:=by
   cases hc:L s with
   | false=>rfl
   | true =>
    rw [zbr hC f s i t1 hc (t8' i hlt)] at hL
    cases hL
  obtain ⟨hSw,hGw⟩:S L w∧∀ j,j < ops.size→j ≠ s→L j = true→G j w (V j):=by
   rcases hP with ⟨_,b,c⟩ | ⟨e,_⟩
   ·exact ⟨b,c⟩
   ·rw [hLs] at e; cases e
  obtain ⟨F,hF⟩:∃ F,F = fill ops (fun j=>j != s) V a0 ops.size:=⟨_,rfl⟩
  obtain ⟨a,haa⟩:∃ a,a = fill ops L V a0 ops.size:=⟨_,rfl⟩
  rw [← haa]
  unfold regSetT at hset
  have hst:=List.all_eq_true.1 hset i (by simpa using hlt)
  rw [ho] at hst
  simp only [Option.map_some,Option.getD_some,Bool.and_eq_true] at hst
  obtain ⟨⟨hsel,hops⟩,hgd⟩:=hst
  have hx:execOp a.eval o = execOp F.eval o:=by
   refine execOp_congr o ?_ ?_
   ·intro cs b e
    rw [e] at hsel
    cases hsel
   ·intro x hx
    have h1:=List.all_eq_true.1 hops x (by simpa using hx)
    rw [hF]
    cases x with
    | tmp t =>
     dsimp only at h1
     rw [Bool.and_eq_true,decide_eq_true_eq] at h1
     rw [haa]
     exact zbm hdst t h1.1 h1.2 hpre hLs (fun _ _ _=>rfl)
    | _=>rfl
  have hw:Region.wanted o (yielded ops a.tmps) = Region.wanted o (yielded ops F.tmps):=by
   unfold Region.wanted
   cases hg:o.guard with
   | none=>rfl
   | some gw =>
    obtain ⟨g,want⟩:=gw
    dsimp only
    rw [zbq,zbq]
    rw [hg] at hgd
    dsimp only at hgd
    cases hds:dstAt ops g with
    | none=>rfl
    | some t =>
     rw [hds] at hgd
     dsimp only at hgd ⊢
     rw [Bool.and_eq_true,decide_eq_true_eq] at hgd
     have h2:=zbm (V:=V) (vals:=V) hdst t hgd.1 hgd.2 hpre hLs (fun _ _ _=>rfl)
     rw [← hF,← haa] at h2
     have h3:a.tmps.getD t undef = F.tmps.getD t undef:=h2
     rw [h3]
  have hC':∀ j k,j < ops.size→Upd L i j = true→(afterOf ops j).contains k = true→Upd L i k = true:=fun j k hj hU hk=>by
   by_cases c:j = i
   ·have e:afterOf ops i = (o.after.toList.filter (Region.binds .any)).map (·.on):=by unfold afterOf; rw [ho]
    rw [c,e] at hk
    have:=hpre k hk
    unfold Upd
    rw [this]
    rfl
   ·have:=hC j k hj (by simpa [Upd,c] using hU) hk
    unfold Upd
    rw [this]
    rfl
  have hd:dstAt ops i = o.dst:=by unfold dstAt; rw [ho]; rfl
  have hU:∀ j,j ≠ i→Upd L i j = L j:=fun j c=>by unfold Upd; simp [c]
  have hUi:Upd L i i = true:=by unfold Upd; simp
  have hVi:∀ v,updV V i v i = v:=fun v=>by unfold updV; simp
  have hVo:∀ v j,j ≠ i→updV V i v j = V j:=fun v j c=>by unfold updV; simp [c]
  unfold wpOp
  simp only [ho]
  rw [hw,hd]
  suffices hy:YieldsX P ops (fun v w'=>(∀ j k,j < ops.size→Upd L i j = true→(afterOf ops j).contains k = true→Upd L i k = true)∧((Upd L i s = false∧S (Upd L i) w'∧∀ j,j < ops.size→j ≠ s→Upd L i j = true→G j w' (updV V i v j))∨(Upd L i s = true∧∃ c,(∀ j,j < ops.size→j ≠ s→c j = updV V i v j)∧A c (updV V i v s) w'))) o F w by
   rcases hy with ⟨h1,h2⟩ | ⟨h1,v,w',h2,h3⟩ | ⟨h1,w',h2,h3⟩ | ⟨h1,fn,args,w',h2,h3⟩
   ·rw [if_neg (by rw [h1]; simp)]
    exact ⟨undef,rfl,h2⟩
   ·rw [if_pos h1]
    refine .inl ?_
    unfold Oper.wp
    rw [hx,h2]
    exact ⟨v,rfl,h3⟩
   ·rw [if_pos h1]
    refine .inl ?_
    unfold Oper.wp
    rw [hx,h2]
    exact ⟨undef,rfl,h3⟩
   ·rw [if_pos h1]
    refine .inl ?_
    unfold Oper.wp
    rw [hx,h2,Oper.upon_enter]
    refine h3.mono ?_
    rintro e w'' ⟨v,rfl,hS'⟩
    exact ⟨v,rfl,hS'⟩
  by_cases cs:i = s
  ·subst cs
   have hall:∀ j,j < ops.size→j ≠ i→L j = true:=fun j hj hne=>by
    have hw2:=t8' j hj
    cases f with
    | zero =>
     have:i = j:=by simpa [waits] using hw2
     exact absurd this.symm hne
    | succ f =>
     unfold waits at hw2
     rw [Bool.or_eq_true] at hw2
     rcases hw2 with e | e
     ·exact absurd (by simpa using e) (Ne.symm hne)
     ·obtain ⟨k,hk1,hjw⟩:=List.any_eq_true.1 e
      have hLk:L k = true:=hpre k (by
       have e:afterOf ops i = (o.after.toList.filter (Region.binds .any)).map (·.on):=by unfold afterOf; rw [ho]
       rw [← e]; simpa using hk1)
      by_cases hjs:k < ops.size
      ·exact zbr hC f k j hjs hLk hjw
      ·by_cases ejm:k = j
       ·rw [← ejm]; exact hLk
       ·rw [zda f k j hjs ejm] at hjw; cases hjw
   have hy:=hs o ho V w L hall hSw (fun j hj hne=>hGw j hj hne (hall j hj hne))
   rw [← hF] at hy
   refine zgw hy (fun v w' hA=>⟨hC',.inr ⟨hUi,V,fun j hj hne=>(hVo v j hne).symm,by rw [hVi]; exact hA⟩⟩)
  ·have hy:=hk i o ho cs V w L hL (fun m hm hw2=>by
    cases hc:L m with
    | false=>rfl
    | true=>rw [zbr hC f m i hm hc hw2] at hL; cases hL) hSw (fun j hj hne=>by
    have hLj:L j = true:=hpre j (by
     have e:afterOf ops i = (o.after.toList.filter (Region.binds .any)).map (·.on):=by unfold afterOf; rw [ho]
     rw [← e]; exact hj)
    have hjs:j < ops.size:=by
     have e:afterOf ops i = (o.after.toList.filter (Region.binds .any)).map (·.on):=by unfold afterOf; rw [ho]
     rw [e] at hj
     simp at hj
     obtain ⟨ed,⟨m1,m2⟩,hon⟩:=hj
     have:=zbv hok i o ho ed m1 m2
     omega
    exact hGw j hjs hne hLj)
   rw [← hF] at hy
   refine zgw hy (fun v w' ⟨hB,hGv,hSv⟩=>⟨hC',.inl ⟨by rw [hU s (Ne.symm cs)]; exact hLs,hSv,fun j hj hne hLj=>?_⟩⟩)
   by_cases c:j = i
   ·rw [c,hVi]; exact hGv
   ·rw [hVo _ j c]
    rw [hU j c] at hLj
    exact hG j w w' _ hB (hGw j hj hne hLj)
 ·intro V w hI
  obtain ⟨_,hP⟩:=hI
  rcases hP with ⟨h1,_⟩ | ⟨_,c,hc,hA⟩
  ·cases h1
  ·have e:fill ops (fun _=>true) V a0 ops.size = fill ops (fun _=>true) (updV c s (V s)) a0 ops.size:=by
    refine zca ops.size fun j hj=>⟨rfl,fun _=>?_⟩
    unfold updV
    by_cases c1:j = s
    ·rw [if_pos c1,c1]
    ·rw [if_neg c1]; exact (hc j hj c1).symm
   rw [e]
   exact hq c (V s) w hA
theorem zbp {id n:Nat} (s f:Nat) (hm:P.follows .mixedOrders = true) (S:World→Prop) (G:Nat→World→Value→Prop) (A:(Nat→Value)→Value→World→Prop) {w0:World} (hok:regOk ops = true) (hset:regSetT ops s a0.tmps.size = true) (hlast:lastOk ops f s = true)
  (h0:S w0.drew) (hn:ops.size = n) (hS:∀ w w',S w→Below w.heap.size w w'→S w') (hG:∀ i w w' v,Below w.heap.size w w'→G i w v→G i w' v)
  (h:∀ (F:(Nat→Value)→Act) (Fz:(Nat→Value)→Value→Act),(∀ c,fill ops (fun j=>j != s) c a0 n = F c)→(∀ c v,fill ops (fun _=>true) (updV c s v) a0 n = Fz c v) →
   (∀ (i:Nat) (o:Oper),ops[i]? = some o→i ≠ s→∀ c w,S w→(∀ j,(afterOf ops i).contains j = true→j ≠ s→G j w (c j))→YieldsX P ops (fun v w'=>Below w.heap.size w w'∧G i w' v) o (F c) w) ∧
   (∀ o:Oper,ops[s]? = some o→∀ c w,S w→(∀ j,j < n→j ≠ s→G j w (c j))→YieldsX P ops (fun v w'=>A c v w') o (F c) w) ∧
   (∀ c v w,A c v w→Q .normal (Fz c v) w)):(Code.region id ops true).wp P Q a0 w0 :=
 zbe s f hm (fun w w'=>Below w.heap.size w w') S G A hok hset hlast h0 hn hS hG h
theorem zac {T:Value→World→Prop} {o:Oper} {F:Act} {w:World} (v:Value) (hw:Region.wanted o (yielded ops F.tmps) = true) (hr:(execOp F.eval o).run P w = .ok (.value v) w) (hT:T v w):YieldsX P ops T o F w:=.inr (.inl ⟨hw,v,w,hr,hT⟩)
theorem zer {T:Value→World→Prop} {o:Oper} {F:Act} {w:World} (v:Value) (w':World) (hw:Region.wanted o (yielded ops F.tmps) = true) (hr:(execOp F.eval o).run P w = .ok (.value v) w') (hT:T v w'):YieldsX P ops T o F w:=.inr (.inl ⟨hw,v,w',hr,hT⟩)
theorem zbu {T:Value→World→Prop} {o:Oper} {F:Act} {w:World} (w':World) (hw:Region.wanted o (yielded ops F.tmps) = true) (hr:(execOp F.eval o).run P w = .ok .skip w') (hT:T undef w'):YieldsX P ops T o F w:=.inr (.inr (.inl ⟨hw,w',hr,hT⟩))
theorem zjz {T:Value→World→Prop} {o:Oper} {F:Act} {w:World} {v:Value} {S:World→Prop} (h:YieldsV P ops S o v F w) (hT:∀ w',S w'→T v w'):YieldsX P ops T o F w:=by
 rcases h with ⟨h1,h2,h3⟩ | ⟨h1,w',h2,h3⟩ | ⟨h1,h4,w',h2,h3⟩ | ⟨h1,f,args,w',h2,h3⟩
 ·exact .inl ⟨h1,h2 ▸ hT w h3⟩
 ·exact .inr (.inl ⟨h1,v,w',h2,hT w' h3⟩)
 ·exact .inr (.inr (.inl ⟨h1,w',h2,h4 ▸ hT w' h3⟩))
 ·exact .inr (.inr (.inr ⟨h1,f,args,w',h2,h3.mono fun e w'' ⟨a,b⟩=>⟨v,a,hT w'' b⟩⟩))
theorem zdu {T:Value→World→Prop} {o:Oper} {F:Act} {w:World} (hw:Region.wanted o (yielded ops F.tmps) = true)
  {f : FuncId} {fn : Func} {ars : Array Operand} {ts : Array TypeId} (hop : o.op = .call { callee := .value (.func f), args := ars, argTypes := ts }) (hf : P.funcs[f]? = some fn) (hname : (fn.name == "runtime.NumGoroutine") = false) (hb : fn.body.isSome = true)
  (args:Array Value) (hargs:ars.map F.eval = args) (h:Calls P f args w fun e w'=>∃ v,e = .returned v∧T v w'):YieldsX P ops T o F w:=by
 refine .inr (.inr (.inr ⟨hw,f,args,w,?_,h⟩))
 have he:(callFunc f args).run P w = .ok (.enter f args) w:=by
  have h1 : fn.name ≠ "runtime.NumGoroutine" := by simpa using hname
  obtain ⟨c,hc⟩:=Option.isSome_iff_exists.1 hb
  simp [callFunc,hf,h1,hc]
 unfold execOp
 simp [hop,resolve,Deferred.ofValue,invoke,Act.eval,hargs,he]
end
structure A6 where
 code:Nat
 kind:Nat
 par:Nat
 name:Nat
def a6 (x:A6):List Value:=[.int .u8 (x.code:Int),.int .u8 (x.kind:Int),.int .u8 (x.par:Int),.int .u8 (x.name:Int)]
def a60:A6:=⟨0,0,0,0⟩
def A6.ok (x:A6):Prop:=x.code≤255∧x.kind≤255∧x.par≤255∧x.name≤255
def base6 (c:Nat) (x:A6):Ac:=⟨c + (1 + x.code % 4),⟨(Sc.name6 x.name).toArray⟩,x.kind % 5,0⟩
def pick6 (out:List Ac) (x:A6):Ac:=out.getD (x.par % out.length) ac0
def new6 (out:List Ac) (c:Nat) (x:A6):Ac :=
 if out.length ≠ 0∧0 < x.par % 3∧(wayO out 13 (getC out (pick6 out x).code)).length < 11 then { base6 c x with par:=(pick6 out x).code,kind:=(pick6 out x).kind } else base6 c x
def st6 (s:List Ac × Nat) (x:A6):List Ac × Nat:=(s.1 ++ [new6 s.1 s.2 x],s.2 + (1 + x.code % 4))
def mk6 (l:List A6):List Ac × Nat:=l.foldl st6 ([],0)
theorem ztu (l:List A6) (k:Nat) (hk:k < l.length):mk6 (l.take (k + 1)) = st6 (mk6 (l.take k)) (l.getD k a60):=by
 unfold mk6
 rw [List.take_succ_eq_append_getElem hk,List.foldl_append]
 simp [List.getD,hk]
theorem zkn (l:List A6):(mk6 l).1.length = l.length:=by
 unfold mk6
 have go:∀ (l:List A6) (s:List Ac × Nat),(l.foldl st6 s).1.length = s.1.length + l.length:=fun l=>by
  induction l with
  | nil=>intro s; rfl
  | cons x l ih=>intro s; rw [List.foldl_cons,ih]; simp [st6]; omega
 simpa using go l ([],0)
theorem ztv (l:List A6):(mk6 l).2≤4 * l.length:=by
 unfold mk6
 have go:∀ (l:List A6) (s:List Ac × Nat),(l.foldl st6 s).2≤s.2 + 4 * l.length:=fun l=>by
  induction l with
  | nil=>intro s; simp
  | cons x l ih =>
   intro s
   rw [List.foldl_cons]
   have:=ih (st6 s x)
   have h:(st6 s x).2 = s.2 + (1 + x.code % 4):=rfl
   rw [h] at this
   rw [List.length_cons]
   omega
 simpa using go l ([],0)
theorem zdk (W:World) (B:Nat) (ty:TypeId) (v:Value) (n:Nat) (xs:List Ac) (hown:W.ownsRow B 61 4 v n (xs.flatMap ac)) (g:Nat) (z:Ac) (RG:Row W g (ac z).toArray 61) (hn:n≤100000) (hB:B≤W.heap.size) :
  ∃ v' w',(Builtin.append_ #[34,34] ty #[v,.slice (some ⟨g,0,none⟩) 1 1]).run Tryz.prog W = .ok v' w'∧w'.ownsRow B 61 4 v' (n + 1) ((xs ++ [z]).flatMap ac)∧Below B W w'∧(∀ b,b < W.heap.size→v.ownBlock ≠ some b→w'.heap[b]? = W.heap[b]?)∧(v'.ownBlock = v.ownBlock∨v'.ownBlock = some W.heap.size)∧W.heap.size≤w'.heap.size:=by
 have hi0:(Tryz.prog.info? 61).map (fun i=>(i.zero,i.size,i.bytes)) = some (some (.agg (ac ac0).toArray),4,32):=by kernel_rfl
 obtain ⟨i,hi,h⟩:=Option.map_eq_some_iff.1 hi0
 simp only [Prod.mk.injEq] at h
 obtain ⟨h1,h2,h3⟩:=h
 obtain ⟨v',w',hr,k2,k3,k4,k5⟩:=run_append_own_at (P:=Tryz.prog) W B 34 ty 61 i (.agg (ac ac0).toArray) 4 32 Tryz.underlying34 hi h1 h2 h3 rfl (by omega) v n (xs.flatMap ac) hown ⟨g,0,none⟩ 1 1 (ac z) rfl (fun j u hj=>by
  rw [zbo,Nat.zero_add,RG.cell j]
  simpa using hj) (fun u hu=>by simp [ac] at hu; rcases hu with rfl | rfl | rfl | rfl <;> rfl) (by unfold maxLen; omega) (by omega) hB
 have hBB:Below B W w':=(Below.refl B W).grown k3 hB (fun k hk=>(zbc hown hk).1)
 exact ⟨v',w',hr,by rw [List.flatMap_append]; simpa using k2,hBB,fun b hb hne=>k3.block b hb fun e=>hne e.symm,k5,hBB.size⟩
set_option maxHeartbeats 8000000 in
set_option maxRecDepth 100000 in
theorem zre (a:Option Addr) (cap:Nat) (l:List A6) (w:World) (hE:ElsAt a6 4 a60 w a l) (hok:∀ x ∈ l,x.ok) (hl:l.length≤40) :
  Calls Tryz.prog 28 #[.slice a l.length cap] w fun e w'=>∃ v,e = .returned v∧w'.ownsRow w.heap.size 61 4 v l.length ((mk6 l).1.flatMap ac)∧Below w.heap.size w w':=by
 have HE:=hdq hE
 have HO:=hdq hok
 have HL:=hdq hl
 clear hE hok hl
 go_enter Tryz.func28,Tryz.ntmps28
 go_wp2_with fail
 go_loopw [3,4,11] (fun sv cv iv wr=>∃ k:Nat,k≤l.length∧iv = .int .i64 (k:Int)∧cv = .int .u32 ((mk6 (l.take k)).2:Int)∧wr.ownsRow w.heap.size 61 4 sv k ((mk6 (l.take k)).1.flatMap ac)∧Below w.heap.size w wr) (fun _ _ iv _=>l.length - (intOf iv).toNat)
 case atStart=>exact ⟨0,by omega,rfl,rfl,⟨rfl,.inl ⟨rfl,rfl⟩⟩,Below.refl _ _⟩
 case round =>
  obtain ⟨k,hk,rfl,rfl,hown,BB⟩:=hrel
  obtain ⟨sp,sc,rfl⟩:=zaj hown
  have HOW:=hdq hown
  have HB:=hdq BB
  clear hown BB
  have hcd:=ztv (l.take k)
  have hln:=zkn (l.take k)
  rw [List.length_take,Nat.min_eq_left hk] at hcd hln
  obtain ⟨out,hout⟩:∃ o,o = (mk6 (l.take k)).1:=⟨_,rfl⟩
  obtain ⟨cd,hcde⟩:∃ c,c = (mk6 (l.take k)).2:=⟨_,rfl⟩
  rw [← hout] at HOW hln
  rw [← hcde] at hcd ⊢
  have HS:=hdq (And.intro hout hcde)
  have HLN:=hdq hln
  clear hout hcde hln
  by_cases hlt:k < l.length
  ·have i0:(0:Int)≤(k:Int):=by omega
   have i1:(k:Int) < (l.length:Int):=by omega
   have hq:((k:Int) == 40) = false:=beq_eq_false_iff_ne.2 (by have:=HL.out; omega)
   obtain ⟨b,off,rfl,hcc⟩:∃ b off,a = some ⟨b,off,none⟩∧∀ i,i < l.length→w.rangeAt b (off + i * 4) (a6 (l.getD i a60)):=by
    rcases HE.out with h | h
    ·rw [h] at hlt; simp at hlt
    ·exact h
   have ck:=zah (hcc k hlt) HB.out
   have hx:=HO.out _ (zay (d:=a60) hlt)
   have hst:=ztu l k hlt
   obtain ⟨x,hxe⟩:∃ x,x = l.getD k a60:=⟨_,rfl⟩
   rw [← hxe] at ck hx hst
   have HST:=hdq hst
   have HLT:=hdq hlt
   have HX:=hdq hx
   have c0:wr.cell? ⟨b,off + k * 4,none⟩ = some (.int .u8 (x.code:Int)):=ck 0 _ rfl
   have c1:wr.cell? ⟨b,off + k * 4 + 1,none⟩ = some (.int .u8 (x.kind:Int)):=ck 1 _ rfl
   have c2:wr.cell? ⟨b,off + k * 4 + 2,none⟩ = some (.int .u8 (x.par:Int)):=ck 2 _ rfl
   have c3:wr.cell? ⟨b,off + k * 4 + 3,none⟩ = some (.int .u8 (x.name:Int)):=ck 3 _ rfl
   have m1:(x.code:Int).tmod 4 = ((x.code % 4:Nat):Int):=by rw [Int.tmod_eq_emod_of_nonneg (by omega)]; rfl
   have hm1:x.code % 4 < 4:=by omega
   obtain ⟨d,hd⟩:∃ d,d = x.code % 4:=⟨_,rfl⟩
   rw [← hd] at m1 hm1
   have HD:=hdq hd
   have e1:IntKind.u8.wrap (d:Int) = (d:Int):=by rw [IntKind.wrap_u8]; omega
   have e2:IntKind.u32.wrap (d:Int) = (d:Int):=by rw [IntKind.wrap_u32]; omega
   have e3:IntKind.u32.wrap (1 + (d:Int)) = 1 + (d:Int):=by rw [IntKind.wrap_u32]; omega
   have e4:IntKind.u32.wrap ((cd:Int) + (1 + (d:Int))) = (cd:Int) + (1 + (d:Int)):=by rw [IntKind.wrap_u32]; have:=HL.out; omega
   have e5:IntKind.i64.wrap ((k:Int) + 1) = (k:Int) + 1:=by rw [IntKind.wrap_i64]; have:=HL.out; omega
   clear hcc ck hx hst hxe hlt hk hd hcd
   go_wp2_with fail
   have RA:=Row.new wr (a6 x).toArray 116
   have BA:=zaa HB.out (.cells (a6 x).toArray 116)
   have OA:=zan HOW.out (.cells (a6 x).toArray 116)
   have NA:=(fun e=>by have:=(zbc HOW.out e).2; omega:(Value.slice sp k sc).ownBlock ≠ some wr.heap.size)
   change Row (wr.alloc (.cells #[.int .u8 (x.code:Int),.int .u8 (x.kind:Int),.int .u8 (x.par:Int),.int .u8 (x.name:Int)] 116)) _ _ _ at RA
   change Below _ w (wr.alloc (.cells #[.int .u8 (x.code:Int),.int .u8 (x.kind:Int),.int .u8 (x.par:Int),.int .u8 (x.name:Int)] 116)) at BA
   change (wr.alloc (.cells #[.int .u8 (x.code:Int),.int .u8 (x.kind:Int),.int .u8 (x.par:Int),.int .u8 (x.name:Int)] 116)).ownsRow _ _ _ _ _ _ at OA
   have ZA:wr.heap.size < (wr.alloc (.cells #[.int .u8 (x.code:Int),.int .u8 (x.kind:Int),.int .u8 (x.par:Int),.int .u8 (x.name:Int)] 116)).heap.size:=by simp
   generalize wr.alloc (.cells #[.int .u8 (x.code:Int),.int .u8 (x.kind:Int),.int .u8 (x.par:Int),.int .u8 (x.name:Int)] 116) = wa at *
   obtain ⟨gA,hgA⟩:∃ g,g = wr.heap.size:=⟨_,rfl⟩
   rw [← hgA] at RA NA ZA ⊢
   have HRA:=hdq RA
   have HBA:=hdq BA
   have HOA:=hdq OA
   have HNA:=hdq (And.intro NA ZA)
   clear RA BA OA NA ZA hgA c0 c1 c2 c3 HB HOW m1 e1 e2 e3 e4
   have m5:(x.kind:Int).tmod 5 = ((x.kind % 5:Nat):Int):=by rw [Int.tmod_eq_emod_of_nonneg (by omega)]; rfl
   have e6:IntKind.u8.wrap ((x.kind % 5:Nat):Int) = ((x.kind % 5:Nat):Int):=by rw [IntKind.wrap_u8]; omega
   refine zbp (n:=10) 9 8 (by kernel_rfl) (fun w'=>Below wa.heap.size wa w') (fun i w' v=>if i = 8 then (∃ g,v = .pointer (some ⟨g,0,none⟩)∧wa.heap.size≤g∧Row w' g (ac ac0).toArray 61) else v = (#[.int .u32 ((cd:Int) + (1 + (d:Int))),.pointer (some ⟨gA,3,none⟩),.int .u8 (x.name:Int),.string ⟨(Sc.name6 x.name).toArray⟩,.pointer (some ⟨gA,1,none⟩),.int .u8 (x.kind:Int),.int .u8 ((x.kind % 5:Nat):Int),.agg #[.int .u32 ((cd:Int) + (1 + (d:Int))),.string ⟨(Sc.name6 x.name).toArray⟩,.int .u8 ((x.kind % 5:Nat):Int),.int .u32 0]]:Array Value).getD i undef)
    (fun c v w'=>∃ g,c 8 = .pointer (some ⟨g,0,none⟩)∧wa.heap.size≤g∧Row w' g #[.int .u32 ((cd:Int) + (1 + (d:Int))),.string ⟨(Sc.name6 x.name).toArray⟩,.int .u8 ((x.kind % 5:Nat):Int),.int .u32 0] 61∧Below wa.heap.size wa w') (by kernel_rfl) (by kernel_rfl) (by kernel_rfl) (zat (Below.refl _ _)) rfl (fun _ _ a b=>zab a b) (fun i w1 w2 v hb h=>by
     by_cases c:i = 8
     ·rw [if_pos c] at h ⊢; obtain ⟨g,h1,h2,h3⟩:=h; exact ⟨g,h1,h2,h3.below hb⟩
     ·rw [if_neg c] at h ⊢; exact h) ?_
   intro F Fz hF hFz
   simp only [fill,updV,dstAt] at hF hFz
   simp [Act.put] at hF hFz
   obtain rfl:F = fun c=>_:=funext fun c=>(hF c).symm
   obtain rfl:Fz = fun c v=>_:=funext fun c=>funext fun v=>(hFz c v).symm
   clear hF hFz
   refine ⟨?_,?_,?_⟩
   ·intro i op ho n1 c wx S hG
    have RX:=HRA.out.below S
    have d1:wx.cell? ⟨gA,1,none⟩ = some (.int .u8 (x.kind:Int)):=RX.cell 1
    have d3:wx.cell? ⟨gA,3,none⟩ = some (.int .u8 (x.name:Int)):=RX.cell 3
    rcases i with _ | _ | _ | _ | _ | _ | _ | _ | _ | _ | i
    all_goals (first | (exact absurd rfl n1) | (simp at ho; done) | (obtain rfl:=Option.some.inj ho))
    ·exact zac _ rfl (by go_simp) ⟨Below.refl _ _,rfl⟩
    ·exact zac _ rfl (by go_simp) ⟨Below.refl _ _,rfl⟩
    ·have g1:c 1 = .pointer (some ⟨gA,3,none⟩):=hG 1 rfl (by omega)
     exact zac (.int .u8 (x.name:Int)) rfl (by simp only [g1]; go_simp) ⟨Below.refl _ _,rfl⟩
    ·have g2:c 2 = .int .u8 (x.name:Int):=hG 2 rfl (by omega)
     exact zjz (zcy rfl rfl Tryz.func41 (by kernel_rfl) rfl #[.int .u8 (x.name:Int)] (by simp only [g2]; go_simp) (ziz x.name HX.out.2.2.2 wx)) (fun w' hb=>⟨hb,rfl⟩)
    ·exact zac _ rfl (by go_simp) ⟨Below.refl _ _,rfl⟩
    ·have g4:c 4 = .pointer (some ⟨gA,1,none⟩):=hG 4 rfl (by omega)
     exact zac (.int .u8 (x.kind:Int)) rfl (by simp only [g4]; go_simp) ⟨Below.refl _ _,rfl⟩
    ·have g5:c 5 = .int .u8 (x.kind:Int):=hG 5 rfl (by omega)
     exact zac (.int .u8 ((x.kind % 5:Nat):Int)) rfl (by simp only [g5]; go_simp) ⟨Below.refl _ _,rfl⟩
    ·have g0:c 0 = .int .u32 ((cd:Int) + (1 + (d:Int))):=hG 0 rfl (by omega)
     have g3:c 3 = .string ⟨(Sc.name6 x.name).toArray⟩:=hG 3 rfl (by omega)
     have g6:c 6 = .int .u8 ((x.kind % 5:Nat):Int):=hG 6 rfl (by omega)
     exact zac (.agg #[.int .u32 ((cd:Int) + (1 + (d:Int))),.string ⟨(Sc.name6 x.name).toArray⟩,.int .u8 ((x.kind % 5:Nat):Int),.int .u32 0]) rfl (by simp only [g0,g3,g6]; go_simp) ⟨Below.refl _ _,rfl⟩
    ·exact zer _ (wx.alloc (.cells (ac ac0).toArray 61)) rfl (by go_simp; rfl) ⟨zaa (Below.refl _ wx) _,wx.heap.size,rfl,S.size,Row.new wx _ _⟩
   ·intro op ho c wx S hG
    obtain rfl:=Option.some.inj ho
    obtain ⟨g,g8,hg,RG⟩:=hG 8 (by omega) (by omega)
    have g7:c 7 = .agg #[.int .u32 ((cd:Int) + (1 + (d:Int))),.string ⟨(Sc.name6 x.name).toArray⟩,.int .u8 ((x.kind % 5:Nat):Int),.int .u32 0]:=hG 7 (by omega) (by omega)
    refine zjz (S:=fun w'=>Row w' g #[.int .u32 ((cd:Int) + (1 + (d:Int))),.string ⟨(Sc.name6 x.name).toArray⟩,.int .u8 ((x.kind % 5:Nat):Int),.int .u32 0] 61∧Stored wx g w') (zdl rfl 61 _ _ rfl g _ g8 g7 RG (zcm ac0) rfl (by simp [Value.oneCell']) (fun w1 R1 S1=>⟨R1,S1⟩)) (fun w' ⟨R1,S1⟩=>⟨g,g8,hg,R1,S1.below S hg⟩)
   ·rintro c v wx ⟨g,g8,hg,RG,SX⟩
    simp only [g8]
    have OWX:=zai HOA.out SX
    have HBX:=hdq (zab HBA.out SX)
    have RX:=HRA.out.below SX
    have p2:wx.cell? ⟨gA,2,none⟩ = some (.int .u8 (x.par:Int)):=RX.cell 2
    have hp3:(x.par:Int).tmod 3 = ((x.par % 3:Nat):Int):=by rw [Int.tmod_eq_emod_of_nonneg (by omega)]; rfl
    have e7:IntKind.u8.wrap ((x.par % 3:Nat):Int) = ((x.par % 3:Nat):Int):=by rw [IntKind.wrap_u8]; omega
    have hgz:w.heap.size≤g:=by have:=HBA.out.size; omega
    have HGZ:=hdq (And.intro hgz hg)
    clear hgz hg g8 m5 e6
    by_cases hA:k ≠ 0∧0 < x.par % 3
    ·have q1:(0:Int) < (k:Int):=by omega
     have q2:(0:Int) < ((x.par % 3:Nat):Int):=by omega
     have HA:=hdq hA
     clear hA
     go_wp2_with fail
     obtain ⟨hl9,p9,cap9,hv9,hE9⟩:=zcw ac 4 ac0 (fun _=>rfl) (by decide) OWX
     rw [hl9] at hv9
     obtain ⟨rfl,rfl⟩:sp = p9∧sc = cap9:=by cases hv9; exact ⟨rfl,rfl⟩
     obtain ⟨bo,oo,rfl,hc9⟩:∃ bo oo,sp = some ⟨bo,oo,none⟩∧∀ i,i < out.length→wx.rangeAt bo (oo + i * 4) (ac (out.getD i ac0)):=by
      rcases hE9 with h | h
      ·rw [h] at hl9; simp at hl9; omega
      ·exact h
     have hr9:x.par % k < k:=Nat.mod_lt _ (by omega)
     have m9:(x.par:Int).tmod (k:Int) = ((x.par % k:Nat):Int):=by rw [Int.tmod_eq_emod_of_nonneg (by omega)]; rfl
     have hpk:pick6 out x = out.getD (x.par % k) ac0:=by unfold pick6; rw [hl9]
     have ck9:=hc9 (x.par % k) (by omega)
     rw [← hpk] at ck9
     have hdeep:∀ (m:Nat) W,Below wx.heap.size wx W→Calls Tryz.prog 49 #[.slice (some ⟨bo,oo,none⟩) k sc,.int .u32 (m:Int)] W fun e w'=>e = .returned (.int .i64 ((wayO out 13 (getC out m)).length:Int))∧Below W.heap.size W w':=fun m W hb=>by
      have h:=zrz (some ⟨bo,oo,none⟩) sc out m W (ElsAt.below hE9 hb) (by have:=HL.out; omega)
      rwa [hl9] at h
     obtain ⟨p,hp⟩:∃ p,p = pick6 out x:=⟨_,rfl⟩
     rw [← hp] at ck9
     have HDP:=hdq hdeep
     have HP:=hdq hp
     obtain ⟨r,hr⟩:∃ r,r = x.par % k:=⟨_,rfl⟩
     rw [← hr] at hr9 m9 ck9
     have j0:(0:Int)≤(r:Int):=by omega
     have j1:(r:Int) < (k:Int):=by omega
     have e8:wrap64 (x.par:Int) = (x.par:Int):=by have:=HX.out.2.2.1; unfold wrap64; omega
     have p0:wx.cell? ⟨bo,oo + r * 4,none⟩ = some (.int .u32 (p.code:Int)):=ck9 0 _ rfl
     have p1:wx.cell? ⟨bo,oo + r * 4 + 1,none⟩ = some (.string p.name):=ck9 1 _ rfl
     have p5:wx.cell? ⟨bo,oo + r * 4 + 2,none⟩ = some (.int .u8 (p.kind:Int)):=ck9 2 _ rfl
     have p6:wx.cell? ⟨bo,oo + r * 4 + 3,none⟩ = some (.int .u32 (p.par:Int)):=ck9 3 _ rfl
     have HRG:=hdq RG
     have HOWX:=hdq OWX
     have HL9:=hdq hl9
     clear hv9 hE9 hc9 hpk ck9 hdeep hp hr hl9 RX RG OWX SX hr9 q1 q2 p2 hp3 e7
     have hix:(Instr.indexAt 34 (.slice (some ⟨bo,oo,none⟩) k sc) (.int .i64 (r:Int))).run Tryz.prog wx = .ok (.pointer (some ⟨bo,oo + r * 4,none⟩)) wx:=by go_simp
     rw [e8,m9,hix]
     clear e8 m9 hix
     go_wp2_with fail
     have B8:=zaa (Below.refl _ wx) (.cells #[.int .u32 (p.code:Int),.string p.name,.int .u8 (p.kind:Int),.int .u32 (p.par:Int)] 61)
     have R8:Row (wx.alloc (.cells #[.int .u32 (p.code:Int),.string p.name,.int .u8 (p.kind:Int),.int .u32 (p.par:Int)] 61)) wx.heap.size #[.int .u32 (p.code:Int),.string p.name,.int .u8 (p.kind:Int),.int .u32 (p.par:Int)] 61:=Row.new wx _ _
     have RG8:=HRG.out.below B8
     have OG8:=zai HOWX.out B8
     have BB8:=zab HBX.out B8
     have hne:g ≠ wx.heap.size:=by have:=HRG.out.lt; omega
     refine (HDP.out p.code _ B8).mono ?_
     rintro _ wy ⟨rfl,hb⟩
     have RY:=RG8.below hb
     have R8y:=R8.below hb
     have OY:=zai OG8 hb
     have HBY:=hdq (zab BB8 hb)
     obtain ⟨g8,hg8⟩:∃ z,z = wx.heap.size:=⟨_,rfl⟩
     rw [← hg8] at R8y hne ⊢
     obtain ⟨dl,hdl⟩:∃ n,n = (wayO out 13 (getC out p.code)).length:=⟨_,rfl⟩
     rw [← hdl]
     have HDL:=hdq hdl
     clear B8 R8 RG8 OG8 BB8 hb hg8 hdl p0 p1 p5 p6 j0 j1
     by_cases hd11:dl < 11
     ·have k1:(dl:Int) < 11:=by omega
      have z0:wy.cell? ⟨g8,0,none⟩ = some (.int .u32 (p.code:Int)):=R8y.cell 0
      have z2:wy.cell? ⟨g8,2,none⟩ = some (.int .u8 (p.kind:Int)):=R8y.cell 2
      have HD11:=hdq hd11
      have HRY:=hdq RY
      have HR8:=hdq R8y
      have HOY:=hdq OY
      have HNE:=hdq hne
      have HNO:Hid ((Value.slice (some ⟨bo,oo,none⟩) k sc).ownBlock ≠ some g):=hdq (fun e=>by have h1:=(zbc HOA.out e).2; have:=HGZ.out.2; omega)
      clear hd11 RY R8y OY hne
      go_wp2_with fail
      refine zbe (n:=8) 7 6 (by kernel_rfl) (fun w1 w2=>w2 = w1∨w2 = w1.setCell ⟨g,3,none⟩ (.int .u32 (p.code:Int))) (fun w1=>Stored wy g w1∧∃ z,Row w1 g #[.int .u32 ((cd:Int) + (1 + (d:Int))),.string ⟨(Sc.name6 x.name).toArray⟩,.int .u8 ((x.kind % 5:Nat):Int),z] 61) (fun i w1 v=>if i = 5 then Row w1 g #[.int .u32 ((cd:Int) + (1 + (d:Int))),.string ⟨(Sc.name6 x.name).toArray⟩,.int .u8 ((x.kind % 5:Nat):Int),.int .u32 (p.code:Int)] 61 else v = (#[.pointer (some ⟨g8,0,none⟩),.int .u32 (p.code:Int),.pointer (some ⟨g8,2,none⟩),.int .u8 (p.kind:Int),.pointer (some ⟨g,3,none⟩),undef,.pointer (some ⟨g,2,none⟩)]:Array Value).getD i undef)
       (fun c v w1=>Stored wy g w1∧Row w1 g #[.int .u32 ((cd:Int) + (1 + (d:Int))),.string ⟨(Sc.name6 x.name).toArray⟩,.int .u8 (p.kind:Int),.int .u32 (p.code:Int)] 61) (by kernel_rfl) (by kernel_rfl) (by kernel_rfl) ⟨zbh (Stored.refl _ _),_,HRY.out⟩ rfl (fun w1 w2 ⟨a,z,b⟩ e=>by
        rcases e with rfl | rfl
        ·exact ⟨a,z,b⟩
        ·exact ⟨a.trans (zaf _ _ _ _),_,b.set 3 _⟩) (fun i w1 w2 v e h=>by
        by_cases c:i = 5
        ·rw [if_pos c] at h ⊢
         rcases e with rfl | rfl
         ·exact h
         ·exact h.set 3 _
        ·rw [if_neg c] at h ⊢; exact h) ?_
      intro F Fz hF hFz
      simp only [fill,updV,dstAt] at hF hFz
      simp [Act.put] at hF hFz
      obtain rfl:F = fun c=>_:=funext fun c=>(hF c).symm
      obtain rfl:Fz = fun c v=>_:=funext fun c=>funext fun v=>(hFz c v).symm
      clear hF hFz
      refine ⟨?_,?_,?_⟩
      ·rintro i op ho n1 c wv ⟨S,z,RGv⟩ hG
       have R8v:Row wv g8 #[.int .u32 (p.code:Int),.string p.name,.int .u8 (p.kind:Int),.int .u32 (p.par:Int)] 61:=(S.other g8 HNE.out.symm).trans HR8.out
       have y0:wv.cell? ⟨g8,0,none⟩ = some (.int .u32 (p.code:Int)):=R8v.cell 0
       have y2:wv.cell? ⟨g8,2,none⟩ = some (.int .u8 (p.kind:Int)):=R8v.cell 2
       have v3:wv.cell? ⟨g,3,none⟩ = some z:=RGv.cell 3
       have fz:wv.frozen? ⟨g,3,none⟩ = false:=RGv.frozen 3
       rcases i with _ | _ | _ | _ | _ | _ | _ | _ | i
       all_goals (first | (exact absurd rfl n1) | (simp at ho; done) | (obtain rfl:=Option.some.inj ho))
       ·exact zac _ rfl (by go_simp) ⟨.inl rfl,rfl⟩
       ·have g0:c 0 = .pointer (some ⟨g8,0,none⟩):=hG 0 rfl (by omega)
        exact zac (.int .u32 (p.code:Int)) rfl (by simp only [g0]; go_simp) ⟨.inl rfl,rfl⟩
       ·exact zac _ rfl (by go_simp) ⟨.inl rfl,rfl⟩
       ·have g2:c 2 = .pointer (some ⟨g8,2,none⟩):=hG 2 rfl (by omega)
        exact zac (.int .u8 (p.kind:Int)) rfl (by simp only [g2]; go_simp) ⟨.inl rfl,rfl⟩
       ·exact zac _ rfl (by go_simp) ⟨.inl rfl,rfl⟩
       ·have g4:c 4 = .pointer (some ⟨g,3,none⟩):=hG 4 rfl (by omega)
        have g1:c 1 = .int .u32 (p.code:Int):=hG 1 rfl (by omega)
        exact zbu (wv.setCell ⟨g,3,none⟩ (.int .u32 (p.code:Int))) rfl (by simp only [g4,g1]; go_simp) ⟨.inr rfl,RGv.set 3 (.int .u32 (p.code:Int))⟩
       ·exact zac _ rfl (by go_simp) ⟨.inl rfl,rfl⟩
      ·rintro op ho c wv ⟨S,z,RGv⟩ hG
       obtain rfl:=Option.some.inj ho
       have g6:c 6 = .pointer (some ⟨g,2,none⟩):=hG 6 (by omega) (by omega)
       have g3:c 3 = .int .u8 (p.kind:Int):=hG 3 (by omega) (by omega)
       have R5:Row wv g #[.int .u32 ((cd:Int) + (1 + (d:Int))),.string ⟨(Sc.name6 x.name).toArray⟩,.int .u8 ((x.kind % 5:Nat):Int),.int .u32 (p.code:Int)] 61:=hG 5 (by omega) (by omega)
       have v2:wv.cell? ⟨g,2,none⟩ = some (.int .u8 ((x.kind % 5:Nat):Int)):=R5.cell 2
       have fz:wv.frozen? ⟨g,2,none⟩ = false:=R5.frozen 2
       exact zbu (wv.setCell ⟨g,2,none⟩ (.int .u8 (p.kind:Int))) rfl (by simp only [g6,g3]; go_simp) ⟨S.trans (zaf _ _ _ _),R5.set 2 (.int .u8 (p.kind:Int))⟩
      ·rintro c v wz ⟨SZ,RZ⟩
       have HOZ:=hdq (zak HOY.out SZ HNO.out)
       have HBZ:=hdq (SZ.below HBY.out HGZ.out.1)
       clear z0 z2 k1
       have f0:wz.cell? ⟨g,0,none⟩ = some (.int .u32 ((cd:Int) + (1 + (d:Int)))):=RZ.cell 0
       have f1:wz.cell? ⟨g,1,none⟩ = some (.string ⟨(Sc.name6 x.name).toArray⟩):=RZ.cell 1
       have f2:wz.cell? ⟨g,2,none⟩ = some (.int .u8 (p.kind:Int)):=RZ.cell 2
       have f3:wz.cell? ⟨g,3,none⟩ = some (.int .u32 (p.code:Int)):=RZ.cell 3
       have hz:ac ({ base6 cd x with par:=p.code,kind:=p.kind }) = [.int .u32 ((cd:Int) + (1 + (d:Int))),.string ⟨(Sc.name6 x.name).toArray⟩,.int .u8 (p.kind:Int),.int .u32 (p.code:Int)]:=by unfold ac base6; rw [← HD.out]; simp
       have hnew:new6 out cd x = { base6 cd x with par:=p.code,kind:=p.kind }:=by unfold new6; rw [if_pos,← HP.out]; rw [← HP.out,← HDL.out]; have:=HD11.out; have:=HA.out; have:=HL9.out; omega
       have R9:Row (wz.alloc (.cells #[.int .u32 ((cd:Int) + (1 + (d:Int))),.string ⟨(Sc.name6 x.name).toArray⟩,.int .u8 (p.kind:Int),.int .u32 (p.code:Int)] 61)) wz.heap.size (ac ({ base6 cd x with par:=p.code,kind:=p.kind })).toArray 61:=by rw [hz]; exact Row.new wz _ _
       obtain ⟨v6,w6,hr6,ho6,hb6,hk6,hv6,hs6⟩:=zdk _ w.heap.size 34 (.slice (some ⟨bo,oo,none⟩) k sc) k out (zan HOZ.out _) wz.heap.size ({ base6 cd x with par:=p.code,kind:=p.kind }) R9 (by have:=HL.out; omega) (by have:=HBZ.out.size; simp; omega)
       have HR6:=hdq hr6
       have HO6:=hdq ho6
       have HB6:=hdq ((zaa HBZ.out (.cells #[.int .u32 ((cd:Int) + (1 + (d:Int))),.string ⟨(Sc.name6 x.name).toArray⟩,.int .u8 (p.kind:Int),.int .u32 (p.code:Int)] 61)).trans hb6)
       have HNW:=hdq hnew
       clear hr6 ho6 hb6 hk6 hv6 hs6 R9 hnew hz
       go_wp2_with (first | (at_builtin; refine zbn rfl (zao _ _ _ _ rfl rfl rfl HR6.out) ?_))
       have hst:=HST.out
       have hs:=HS.out
       have hst2:st6 (mk6 (l.take k)) x = (out ++ [new6 out cd x],cd + (1 + x.code % 4)):=by unfold st6; rw [← hs.1,← hs.2]
       rw [hst2,HNW.out] at hst
       refine ⟨⟨k + 1,by have:=HLT.out; omega,by simp,?_,?_,HB6.out⟩,by have:=HLT.out; simp [intOf]; omega⟩
       ·rw [hst,← HD.out]
        simp
       ·rw [hst]
        exact HO6.out
     ·have k1:¬ (dl:Int) < 11:=by omega
      have HD11:=hdq hd11
      have HOY:=hdq OY
      clear hd11 R8y OY hne
      have f0:wy.cell? ⟨g,0,none⟩ = some (.int .u32 ((cd:Int) + (1 + (d:Int)))):=RY.cell 0
      have f1:wy.cell? ⟨g,1,none⟩ = some (.string ⟨(Sc.name6 x.name).toArray⟩):=RY.cell 1
      have f2:wy.cell? ⟨g,2,none⟩ = some (.int .u8 ((x.kind % 5:Nat):Int)):=RY.cell 2
      have f3:wy.cell? ⟨g,3,none⟩ = some (.int .u32 0):=RY.cell 3
      have hz:ac (base6 cd x) = [.int .u32 ((cd:Int) + (1 + (d:Int))),.string ⟨(Sc.name6 x.name).toArray⟩,.int .u8 ((x.kind % 5:Nat):Int),.int .u32 0]:=by unfold ac base6; rw [← HD.out]; simp
      have hnew:new6 out cd x = base6 cd x:=by unfold new6; rw [if_neg]; rw [← HP.out,← HDL.out]; have:=HD11.out; omega
      have R9:Row (wy.alloc (.cells #[.int .u32 ((cd:Int) + (1 + (d:Int))),.string ⟨(Sc.name6 x.name).toArray⟩,.int .u8 ((x.kind % 5:Nat):Int),.int .u32 0] 61)) wy.heap.size (ac (base6 cd x)).toArray 61:=by rw [hz]; exact Row.new wy _ _
      obtain ⟨v6,w6,hr6,ho6,hb6,hk6,hv6,hs6⟩:=zdk _ w.heap.size 34 (.slice (some ⟨bo,oo,none⟩) k sc) k out (zan HOY.out _) wy.heap.size (base6 cd x) R9 (by have:=HL.out; omega) (by have:=HBY.out.size; simp; omega)
      have HR6:=hdq hr6
      have HO6:=hdq ho6
      have HB6:=hdq ((zaa HBY.out (.cells #[.int .u32 ((cd:Int) + (1 + (d:Int))),.string ⟨(Sc.name6 x.name).toArray⟩,.int .u8 ((x.kind % 5:Nat):Int),.int .u32 0] 61)).trans hb6)
      have HNW:=hdq hnew
      clear hr6 ho6 hb6 hk6 hv6 hs6 R9 hnew hz
      go_wp2_with (first | (at_builtin; refine zbn rfl (zao _ _ _ _ rfl rfl rfl HR6.out) ?_))
      have hst:=HST.out
      have hs:=HS.out
      have hst2:st6 (mk6 (l.take k)) x = (out ++ [new6 out cd x],cd + (1 + x.code % 4)):=by unfold st6; rw [← hs.1,← hs.2]
      rw [hst2,HNW.out] at hst
      refine ⟨⟨k + 1,by have:=HLT.out; omega,by simp,?_,?_,HB6.out⟩,by have:=HLT.out; simp [intOf]; omega⟩
      ·rw [hst,← HD.out]
       simp
      ·rw [hst]
       exact HO6.out
    ·have HA:=hdq hA
     have q2:(decide ((0:Int) < (k:Int)) && decide ((0:Int) < ((x.par % 3:Nat):Int))) = false:=by
      rw [← Bool.decide_and,decide_eq_false]
      intro h
      exact hA (by omega)
     by_cases hk0:(0:Int) < (k:Int)
     ·have q3:¬ (0:Int) < ((x.par % 3:Nat):Int):=fun h=>hA (by omega)
      clear hA q2
      have f0:wx.cell? ⟨g,0,none⟩ = some (.int .u32 ((cd:Int) + (1 + (d:Int)))):=RG.cell 0
      have f1:wx.cell? ⟨g,1,none⟩ = some (.string ⟨(Sc.name6 x.name).toArray⟩):=RG.cell 1
      have f2:wx.cell? ⟨g,2,none⟩ = some (.int .u8 ((x.kind % 5:Nat):Int)):=RG.cell 2
      have f3:wx.cell? ⟨g,3,none⟩ = some (.int .u32 0):=RG.cell 3
      have hz:ac (base6 cd x) = [.int .u32 ((cd:Int) + (1 + (d:Int))),.string ⟨(Sc.name6 x.name).toArray⟩,.int .u8 ((x.kind % 5:Nat):Int),.int .u32 0]:=by unfold ac base6; rw [← HD.out]; simp
      have hnew:new6 out cd x = base6 cd x:=by unfold new6; rw [if_neg]; have:=HA.out; have:=HLN.out; omega
      have R9:Row (wx.alloc (.cells #[.int .u32 ((cd:Int) + (1 + (d:Int))),.string ⟨(Sc.name6 x.name).toArray⟩,.int .u8 ((x.kind % 5:Nat):Int),.int .u32 0] 61)) wx.heap.size (ac (base6 cd x)).toArray 61:=by rw [hz]; exact Row.new wx _ _
      obtain ⟨v6,w6,hr6,ho6,hb6,hk6,hv6,hs6⟩:=zdk _ w.heap.size 34 (.slice sp k sc) k out (zan OWX _) wx.heap.size (base6 cd x) R9 (by have:=HL.out; omega) (by have:=HBX.out.size; simp; omega)
      have HR6:=hdq hr6
      have HO6:=hdq ho6
      have HB6:=hdq ((zaa HBX.out (.cells #[.int .u32 ((cd:Int) + (1 + (d:Int))),.string ⟨(Sc.name6 x.name).toArray⟩,.int .u8 ((x.kind % 5:Nat):Int),.int .u32 0] 61)).trans hb6)
      have HNW:=hdq hnew
      clear hr6 ho6 hb6 hk6 hv6 hs6 R9 hnew hz
      go_wp2_with (first | (at_builtin; refine zbn rfl (zao _ _ _ _ rfl rfl rfl HR6.out) ?_))
      have hst:=HST.out
      have hs:=HS.out
      have hst2:st6 (mk6 (l.take k)) x = (out ++ [new6 out cd x],cd + (1 + x.code % 4)):=by unfold st6; rw [← hs.1,← hs.2]
      rw [hst2,HNW.out] at hst
      refine ⟨⟨k + 1,by have:=HLT.out; omega,by simp,?_,?_,HB6.out⟩,by have:=HLT.out; simp [intOf]; omega⟩
      ·rw [hst,← HD.out]
       simp
      ·rw [hst]
       exact HO6.out
     ·clear hA q2
      have f0:wx.cell? ⟨g,0,none⟩ = some (.int .u32 ((cd:Int) + (1 + (d:Int)))):=RG.cell 0
      have f1:wx.cell? ⟨g,1,none⟩ = some (.string ⟨(Sc.name6 x.name).toArray⟩):=RG.cell 1
      have f2:wx.cell? ⟨g,2,none⟩ = some (.int .u8 ((x.kind % 5:Nat):Int)):=RG.cell 2
      have f3:wx.cell? ⟨g,3,none⟩ = some (.int .u32 0):=RG.cell 3
      have hz:ac (base6 cd x) = [.int .u32 ((cd:Int) + (1 + (d:Int))),.string ⟨(Sc.name6 x.name).toArray⟩,.int .u8 ((x.kind % 5:Nat):Int),.int .u32 0]:=by unfold ac base6; rw [← HD.out]; simp
      have hnew:new6 out cd x = base6 cd x:=by unfold new6; rw [if_neg]; have:=HA.out; have:=HLN.out; omega
      have R9:Row (wx.alloc (.cells #[.int .u32 ((cd:Int) + (1 + (d:Int))),.string ⟨(Sc.name6 x.name).toArray⟩,.int .u8 ((x.kind % 5:Nat):Int),.int .u32 0] 61)) wx.heap.size (ac (base6 cd x)).toArray 61:=by rw [hz]; exact Row.new wx _ _
      obtain ⟨v6,w6,hr6,ho6,hb6,hk6,hv6,hs6⟩:=zdk _ w.heap.size 34 (.slice sp k sc) k out (zan OWX _) wx.heap.size (base6 cd x) R9 (by have:=HL.out; omega) (by have:=HBX.out.size; simp; omega)
      have HR6:=hdq hr6
      have HO6:=hdq ho6
      have HB6:=hdq ((zaa HBX.out (.cells #[.int .u32 ((cd:Int) + (1 + (d:Int))),.string ⟨(Sc.name6 x.name).toArray⟩,.int .u8 ((x.kind % 5:Nat):Int),.int .u32 0] 61)).trans hb6)
      have HNW:=hdq hnew
      clear hr6 ho6 hb6 hk6 hv6 hs6 R9 hnew hz
      go_wp2_with (first | (at_builtin; refine zbn rfl (zao _ _ _ _ rfl rfl rfl HR6.out) ?_))
      have hst:=HST.out
      have hs:=HS.out
      have hst2:st6 (mk6 (l.take k)) x = (out ++ [new6 out cd x],cd + (1 + x.code % 4)):=by unfold st6; rw [← hs.1,← hs.2]
      rw [hst2,HNW.out] at hst
      refine ⟨⟨k + 1,by have:=HLT.out; omega,by simp,?_,?_,HB6.out⟩,by have:=HLT.out; simp [intOf]; omega⟩
      ·rw [hst,← HD.out]
       simp
      ·rw [hst]
       exact HO6.out
  ·have i1:¬ (k:Int) < (l.length:Int):=by omega
   obtain rfl:k = l.length:=by omega
   have ho:=HS.out.1
   rw [List.take_length] at ho
   have HOO:=hdq ho
   clear ho hlt hk
   go_wp2_with fail
   go_ret
   rw [← HOO.out]
   exact ⟨_,rfl,HOW.out,HB.out⟩
set_option maxHeartbeats 2000000 in
theorem zrr (v:Value) (l:List Int) (x:Int) (w:World) (hN:NsAt .u16 w v l) (hl:l.length≤1000000) :
  Calls Tryz.prog 85 #[v,.int .u16 x] w fun e w'=>∃ r:Int,e = .returned (.int .i64 r)∧(0≤r ↔ x ∈ l)∧w' = w:=by
 obtain ⟨p,cap,rfl,hc⟩:=hN
 have HC:=hdq hc
 have HL:=hdq hl
 clear hc hl
 go_enter Tryz.func85,Tryz.ntmps85
 go_wp2_with fail
 go_loopw [8] (fun iv wr=>∃ k:Nat,k≤l.length∧iv = .int .i64 (k:Int)∧(∀ t,t < k→l.getD t 0 ≠ x)∧wr = w) (fun iv _=>l.length - (intOf iv).toNat)
 case atStart=>exact ⟨0,by omega,rfl,fun t ht=>by omega,rfl⟩
 case round =>
  obtain ⟨k,hk,rfl,hno,rfl⟩:=hrel
  have HN:=hdq hno
  clear hno
  by_cases hlt:k < l.length
  ·have i0:(0:Int)≤(k:Int):=by omega
   have i1:(k:Int) < (l.length:Int):=by omega
   obtain ⟨b,off,rfl,hcc⟩:∃ b off,p = some ⟨b,off,none⟩∧∀ i,i < l.length→wr.cell? ⟨b,off + i,none⟩ = some (.int .u16 (l.getD i 0)):=by
    rcases HC.out with h | h
    ·rw [h] at hlt; simp at hlt
    ·exact h
   have ck:=hcc k hlt
   have hmem:l.getD k 0 ∈ l:=zay hlt
   obtain ⟨y,hy⟩:∃ y,y = l.getD k 0:=⟨_,rfl⟩
   rw [← hy] at ck hmem
   have HY:=hdq hy
   have HLT:=hdq hlt
   have HM:=hdq hmem
   have e5:IntKind.i64.wrap ((k:Int) + 1) = (k:Int) + 1:=by rw [IntKind.wrap_i64]; have:=HL.out; omega
   clear hcc hy hlt hk hmem
   by_cases hc:x = y
   ·have q1:(x == y) = true:=by simp [hc]
    have HX:=hdq hc
    clear hc
    go_wp2_with fail
    go_ret
    exact ⟨_,rfl,⟨fun _=>by rw [HX.out]; exact HM.out,fun _=>by omega⟩,rfl⟩
   ·have q1:(x == y) = false:=beq_eq_false_iff_ne.2 hc
    have HX:=hdq hc
    clear hc
    go_wp2_with fail
    refine ⟨⟨k + 1,by have:=HLT.out; omega,by simp,fun t ht=>?_,by trivial⟩,by have:=HLT.out; simp [intOf]; omega⟩
    by_cases c:t < k
    ·exact HN.out t c
    ·obtain rfl:t = k:=by omega
     rw [← HY.out]
     exact fun e=>HX.out e.symm
  ·have i1:¬ (k:Int) < (l.length:Int):=by omega
   have hnm:x ∉ l:=fun h=>by
    obtain ⟨t,ht,e⟩:=List.getElem_of_mem h
    have:=HN.out t (by omega)
    rw [List.getD_eq_getElem?_getD,List.getElem?_eq_getElem ht] at this
    exact this e
   have HNM:=hdq hnm
   clear hnm hk hlt
   go_wp2_with fail
   go_ret
   exact ⟨_,rfl,⟨fun h=>by omega,fun h=>absurd h HNM.out⟩,rfl⟩
theorem zfb (v:Value) (l:List Int) (x:Int) (w:World) (hN:NsAt .u16 w v l) (hl:l.length≤1000000) :
  Calls Tryz.prog 50 #[v,.int .u16 x] w fun e w'=>e = .returned (.bool (decide (x ∈ l)))∧w' = w:=by
 have HI:=hdq (zrr v l x w hN hl)
 clear hN hl
 go_enter Tryz.func50,Tryz.ntmps50
 go_wp2_with fail
 refine HI.out.mono ?_
 rintro _ w1 ⟨r,rfl,hr,rfl⟩
 have HR:=hdq hr
 clear HI hr
 by_cases c:0≤r
 ·have hx:decide (x ∈ l) = true:=decide_eq_true (HR.out.1 c)
  go_wp2_with fail
  go_ret
  exact ⟨by rw [hx]; rfl,rfl⟩
 ·have hx:decide (x ∈ l) = false:=decide_eq_false (fun h=>c (HR.out.2 h))
  go_wp2_with fail
  go_ret
  exact ⟨by rw [hx]; show Ending.returned (.bool (decide (0≤r))) = _; rw [decide_eq_false (by omega)],rfl⟩
end Go.Proofs.YtlpdfglbdijkoaaGreatDoor