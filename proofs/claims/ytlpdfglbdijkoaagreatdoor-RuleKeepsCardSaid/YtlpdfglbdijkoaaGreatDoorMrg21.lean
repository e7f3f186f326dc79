/-
  Own texts, several in one (Scr4, Scr5, Awake13).
-/
import Derived.Test.YtlpdfglbdijkoaaGreatDoorMrg20
namespace Go.Proofs.YtlpdfglbdijkoaaGreatDoor
open Go.RowKit
set_option linter.unusedVariables false
set_option linter.unusedSimpArgs false
theorem zlc (W:World) (B:Nat) (ty:TypeId) (v:Value) (xs ys:List (List UInt8)) (hown:W.ownsRow B 9 1 v xs.length (sv xs)) (g:Nat) (RG:Row W g (sv ys).toArray 9) (hn:xs.length≤1000∧ys.length≤1000) (hB:B≤W.heap.size) :
  ∃ v' w',(Builtin.append_ #[137,137] ty #[v,.slice (some ⟨g,0,none⟩) ys.length ys.length]).run Tryz.prog W = .ok v' w'∧w'.ownsRow B 9 1 v' (xs ++ ys).length (sv (xs ++ ys))∧Below B W w'∧∀ b cs t,Row W b cs t→v.ownBlock ≠ some b→Row w' b cs t∧v'.ownBlock ≠ some b:=by
 obtain ⟨i,hi,h1,h2,h3⟩:=zmj
 obtain ⟨v',w',hr,k2,k3,k4,k5⟩:=run_append_own_at (P:=Tryz.prog) W B 137 ty 9 i (.string ByteArray.empty) 1 16 Tryz.underlying137 hi h1 h2 h3 rfl (by omega) v xs.length (sv xs) hown ⟨g,0,none⟩ ys.length ys.length (sv ys) (by simp [sv]) (fun j u hj=>by
  rw [zbo,Nat.zero_add,RG.cell j]
  simpa using hj) (zux ys) (by unfold maxLen; omega) (by omega) hB
 refine ⟨v',w',hr,by rw [zuy,List.length_append]; exact k2,(Below.refl B W).grown k3 hB ?_,fun b cs t R hne=>⟨(k3.block b R.lt fun e=>hne e.symm).trans R,?_⟩⟩
 ·intro k hk
  exact (zbc hown hk).1
 ·rcases k5 with e | e
  ·rw [e]; exact hne
  ·rw [e]
   intro e2
   have:=R.lt
   simp at e2
   omega
def prt (q:Nat × Nat):List UInt8:=Sc.dec q.1 ++ (32 :: Sc.dec q.2)
theorem str_prt (a b:List UInt8):(⟨a.toArray⟩:ByteArray) ++ ⟨#[32]⟩ ++ ⟨b.toArray⟩ = ⟨(a ++ (32 :: b)).toArray⟩:=by
 apply ByteArray.ext
 simp
theorem zpw (q:Nat × Nat) (h:q.1≤4294967295∧q.2≤4294967295):(prt q).length≤41:=by
 have a:=zcl q.1 (by omega)
 have b:=zcl q.2 (by omega)
 unfold prt Sc.dec
 simp
 omega
theorem ztd:∀ (l:List (Nat × Nat)),(∀ p ∈ l,p.1≤4294967295∧p.2≤4294967295)→(Lib.join (l.map prt) [44,32]).length≤43 * l.length
 | [],_=>by simp [Lib.join_nil]
 | p :: r,h=>by
  have hj:=zgo p r
  have e:(Lib.join ((p :: r).map prt) [44,32]).length + 1 = (Sc.partsT (p :: r)).length:=by rw [← hj]; rfl
  have key:∀ l:List (Nat × Nat),(∀ p ∈ l,p.1≤4294967295∧p.2≤4294967295)→(l.flatMap fun q=>44 :: Sc.part q).length≤43 * l.length:=fun l=>by
   induction l with
   | nil=>intro _; simp
   | cons q r ih =>
    intro h
    have h1:=ih fun x hx=>h x (List.mem_cons_of_mem _ hx)
    have h2:=zpw q (h q (by simp))
    have h3:(Sc.part q).length = (prt q).length + 1:=by unfold Sc.part prt; simp
    rw [List.flatMap_cons,List.length_append,List.length_cons,List.length_cons]
    omega
  have h1:=key r fun x hx=>h x (List.mem_cons_of_mem _ hx)
  have h2:=zpw p (h p (by simp))
  have h3:(Sc.part p).length = (prt p).length + 1:=by unfold Sc.part prt; simp
  have h4:(Sc.partsT (p :: r)).length = (Sc.part p).length + (r.flatMap fun q=>44 :: Sc.part q).length:=by
   show (Sc.part p ++ r.flatMap fun q=>44 :: Sc.part q).length = _
   rw [List.length_append]
  rw [List.length_cons]
  omega
set_option maxHeartbeats 8000000 in
set_option maxRecDepth 100000 in
theorem znc (o:Sc.Op) (vp vs:Value) (ho:o.can) (hk:o.kind = 4) (w:World) (hP:PtsAt w vp o.parts) (hM:Glb13 w) :
  Calls Tryz.prog 82 #[.agg (opc o vp vs).toArray] w fun e w'=>e = .returned (.string ⟨(Sc.text Dy.text o).toArray⟩)∧Below w.heap.size w w':=by
 have HM:=hdq hM
 have hpl:=ho.parts.2
 have hx:Sc.text Dy.text o = Lib.join [Sc.word 4,Sc.dec o.fr,Sc.link 4,Lib.join (o.parts.map prt) [44,32]] [32] ++ [59]:=by
  unfold Sc.text
  rw [if_neg (by omega),if_pos hk,zrm]
  obtain ⟨p,r,hpr⟩:∃ p r,o.parts = p :: r:=by
   rcases h:o.parts with _ | ⟨p,r⟩
   ·have:=ho.parts.1 hk; rw [h] at this; simp at this
   ·exact ⟨p,r,rfl⟩
  have hj:=zgo p r
  rw [hpr,← hj,show (p :: r).map prt = (p :: r).map (fun q=>Sc.dec q.1 ++ (32 :: Sc.dec q.2)) from rfl]
  simp
 rw [hx]
 have HW:=hdq fun W hW=>zlh 4 (by omega) W hW
 have HL:=hdq fun W hW=>zmf 4 (by omega) W hW
 rw [show ((4:Nat):Int) = 4 from rfl] at HW HL
 have HF:=hdq fun W hW=>zfn o.fr ho.fr W hW
 have hjl:=ztd o.parts hpl.2
 have hlen:(Lib.join [Sc.word 4,Sc.dec o.fr,Sc.link 4,Lib.join (o.parts.map prt) [44,32]] [32]).length≤20000:=by
  have a1:(Sc.word 4).length≤8:=zsl _ (by omega)
  have a2:(Sc.link 4).length≤8:=zty _ (by omega)
  have b1:(Sc.dec o.fr).length≤20:=zcl _ (by have:=ho.fr; omega)
  rw [zrm]
  simp only [List.length_append,List.flatMap_cons,List.flatMap_nil,List.length_cons,List.append_nil]
  omega
 have HLEN:=hdq hlen
 have HPL:=hdq hpl
 have HJO:=hdq fun (v:Value) W (h:World.ownsRow W w.heap.size 9 1 v (o.parts.map prt).length (sv (o.parts.map prt)))=>zmg w.heap.size _ v (o.parts.map prt) [44,32] W h (by simp; omega) (by omega)
 obtain ⟨pp,cp,rfl,hE⟩:=hP
 have HE:=hdq hE
 clear hM hx hlen hE hpl hjl
 generalize Sc.word 4 = x1 at *
 generalize Sc.link 4 = x2 at *
 generalize Sc.dec o.fr = x3 at *
 unfold opc
 rw [hk,show ((4:Nat):Int) = 4 from rfl]
 go_enter Tryz.func82,Tryz.ntmps82
 go_wp2_with fail
 have HBX:=hdq (zaa (Below.refl _ w) (.cells #[.int .i64 4,.int .u32 (o.fr:Int),.int .u32 (o.too:Int),.string ⟨o.name.toArray⟩,.slice pp o.parts.length cp,vs,.int .i32 o.fin,.int .i64 (o.pos:Int)] 47))
 have RX:=Row.new w #[.int .i64 4,.int .u32 (o.fr:Int),.int .u32 (o.too:Int),.string ⟨o.name.toArray⟩,.slice pp o.parts.length cp,vs,.int .i32 o.fin,.int .i64 (o.pos:Int)] 47
 refine (HW.out _ (HM.out.below HBX.out)).mono ?_
 rintro _ w1 ⟨rfl,rfl⟩
 obtain ⟨gx,hgx⟩:∃ g,g = w.heap.size:=⟨_,rfl⟩
 have HGX:=hdq (show w.heap.size≤gx by omega)
 rw [← hgx] at RX ⊢
 generalize w.alloc (.cells #[.int .i64 4,.int .u32 (o.fr:Int),.int .u32 (o.too:Int),.string ⟨o.name.toArray⟩,.slice pp o.parts.length cp,vs,.int .i32 o.fin,.int .i64 (o.pos:Int)] 47) = wa at *
 have c0:wa.cell? ⟨gx,0,none⟩ = some (.int .i64 4):=RX.cell 0
 have RB:=Row.new wa (sv [x1]).toArray 9
 have hBB:=zaa (Below.refl _ wa) (.cells (sv [x1]).toArray 9)
 change Row (wa.alloc (.cells #[.string ⟨x1.toArray⟩] 9)) wa.heap.size _ _ at RB
 change Below wa.heap.size wa (wa.alloc (.cells #[.string ⟨x1.toArray⟩] 9)) at hBB
 have HRX:=hdq (RX.below hBB)
 have HBW:=hdq (zab HBX.out hBB)
 have HOWN:=hdq (zpr (n:=1) RB (show w.heap.size≤wa.heap.size from HBX.out.size) rfl (by simp))
 have c1:(wa.alloc (.cells #[.string ⟨x1.toArray⟩] 9)).cell? ⟨gx,0,none⟩ = some (.int .i64 4):=HRX.out.cell 0
 have c4:(wa.alloc (.cells #[.string ⟨x1.toArray⟩] 9)).cell? ⟨gx,4,none⟩ = some (.slice pp o.parts.length cp):=HRX.out.cell 4
 have HSB:=hdq RB
 have HGS:=hdq (show gx < wa.heap.size from RX.lt)
 clear hgx RX RB hBB
 go_wp2_with fail
 clear c0 c1 c4
 obtain ⟨gs,hgs⟩:∃ g,g = wa.heap.size:=⟨_,rfl⟩
 rw [← hgs] at HOWN HSB HGS ⊢
 generalize wa.alloc (.cells #[.string ⟨x1.toArray⟩] 9) = wr at *
 clear hgs HBX
 go_loopw [4,44] (fun ov iv wr'=>∃ k:Nat,k≤o.parts.length∧iv = .int .i64 (k:Int)∧wr'.ownsRow w.heap.size 9 1 ov ((o.parts.take k).map prt).length (sv ((o.parts.take k).map prt))∧Below w.heap.size w wr'∧Row wr' gx #[.int .i64 4,.int .u32 (o.fr:Int),.int .u32 (o.too:Int),.string ⟨o.name.toArray⟩,.slice pp o.parts.length cp,vs,.int .i32 o.fin,.int .i64 (o.pos:Int)] 47∧Row wr' gs (sv [x1]).toArray 9∧ov.ownBlock ≠ some gs∧ov.ownBlock ≠ some gx) (fun _ iv _=>o.parts.length - (intOf iv).toNat)
 case atStart=>exact ⟨0,by omega,rfl,⟨rfl,.inl ⟨rfl,rfl⟩⟩,HBW.out,HRX.out,HSB.out,by simp [Value.ownBlock],by simp [Value.ownBlock]⟩
 case round =>
  obtain ⟨k,hk,rfl,hown,BB,RX3,RS3,hns,hnx⟩:=hrel
  have HBW3:=hdq BB
  have HRX3:=hdq RX3
  have HSB3:=hdq RS3
  have HOW3:=hdq hown
  have HNE:=hdq (And.intro hns hnx)
  clear BB RX3 RS3 hown hns hnx
  by_cases hlt:k < o.parts.length
  ·obtain ⟨b,off,rfl,hc⟩:∃ b off,pp = some ⟨b,off,none⟩∧∀ i,i < o.parts.length→w.rangeAt b (off + i * 2) (ptv (o.parts.getD i (0,0))):=by
    rcases HE.out with h | h
    ·rw [h] at hlt; simp at hlt
    ·exact h
   have ck:=zah (hc k hlt) HBW3.out
   have hq0:=HPL.out.2 _ (zay (d:=((0:Nat),(0:Nat))) hlt)
   have i0:(0:Int)≤(k:Int):=by omega
   have i1:(k:Int) < (o.parts.length:Int):=by omega
   have e1:IntKind.i64.wrap ((k:Int) + 1) = (k:Int) + 1:=by have:=HPL.out.1; rw [IntKind.wrap_i64]; omega
   have htk:(o.parts.take (k + 1)).map prt = (o.parts.take k).map prt ++ [prt (o.parts.getD k (0,0))]:=by
    rw [List.take_succ_eq_append_getElem hlt,List.map_append,List.getD_eq_getElem?_getD,List.getElem?_eq_getElem hlt]
    rfl
   have HTK:=hdq htk
   have HI:=hdq hlt
   obtain ⟨q,hq⟩:∃ d,d = o.parts.getD k (0,0):=⟨_,rfl⟩
   rw [← hq] at ck HTK hq0
   have c0:wr.cell? ⟨b,off + k * 2,none⟩ = some (.int .u32 (q.1:Int)):=ck 0 _ rfl
   have c1:wr.cell? ⟨b,off + k * 2 + 1,none⟩ = some (.int .i64 (q.2:Int)):=ck 1 _ rfl
   have HN1:=hdq fun W hW=>zfn q.1 hq0.1 W hW
   have hn2:=fun W hW=>zhi (q.2:Int) (by unfold Wd.I64; omega) W hW
   rw [Lib.itoa_nonneg] at hn2
   have HN2:Hid (∀ W,Glb W→Calls Tryz.prog 117 #[.int .i64 (q.2:Int),.int .i64 10] W fun e w'=>e = .returned (.string ⟨(Sc.dec q.2).toArray⟩)∧Below W.heap.size W w'):=hdq hn2
   have HQL:=hdq (show (Sc.dec q.1).length≤20∧(Sc.dec q.2).length≤20 from ⟨zcl _ (by omega),zcl _ (by omega)⟩)
   clear hc htk hlt hk hq ck hq0 hn2
   go_wp2_with fail
   have R6:=Row.new wr #[.int .u32 (q.1:Int),.int .i64 (q.2:Int)] 89
   have B6:=zaa (Below.refl _ wr) (.cells #[.int .u32 (q.1:Int),.int .i64 (q.2:Int)] 89)
   obtain ⟨g6,hg6⟩:∃ g,g = wr.heap.size:=⟨_,rfl⟩
   rw [← hg6] at R6 ⊢
   generalize wr.alloc (.cells #[.int .u32 (q.1:Int),.int .i64 (q.2:Int)] 89) = wq at *
   have HR6:=hdq R6
   have HBQ:=hdq (zab HBW3.out B6)
   have HOQ:=hdq (zai HOW3.out B6)
   have HXQ:=hdq (HRX3.out.below B6)
   have HSQ:=hdq (HSB3.out.below B6)
   have HNS:=hdq HNE.out.1
   have HNX:=hdq HNE.out.2
   clear R6 B6 hg6 c0 c1
   refine zfp (n:=12) 9 10 11 6 (by kernel_rfl) (fun w'=>Below wq.heap.size wq w') (fun w' v=>∃ g,wq.heap.size≤g∧v = .slice (some ⟨g,0,none⟩) 1 1∧Row w' g (sv [prt q]).toArray 9) (fun w' v=>w'.ownsRow w.heap.size 9 1 v ((o.parts.take k).map prt ++ [prt q]).length (sv ((o.parts.take k).map prt ++ [prt q]))∧Below w.heap.size w w'∧Row w' gx #[.int .i64 4,.int .u32 (o.fr:Int),.int .u32 (o.too:Int),.string ⟨o.name.toArray⟩,.slice (some ⟨b,off,none⟩) o.parts.length cp,vs,.int .i32 o.fin,.int .i64 (o.pos:Int)] 47∧Row w' gs (sv [x1]).toArray 9∧v.ownBlock ≠ some gs∧v.ownBlock ≠ some gx)
    (fun i=>(#[u4,.pointer (some ⟨g6,0,none⟩),.int .u32 (q.1:Int),.string ⟨(Sc.dec q.1).toArray⟩,.string (⟨(Sc.dec q.1).toArray⟩ ++ ⟨#[32]⟩),.pointer (some ⟨g6,1,none⟩),.int .i64 (q.2:Int),.string ⟨(Sc.dec q.2).toArray⟩,.string (⟨(Sc.dec q.1).toArray⟩ ++ ⟨#[32]⟩ ++ ⟨(Sc.dec q.2).toArray⟩)]:Array Value).getD i undef) (by kernel_rfl) (by kernel_rfl) (by kernel_rfl) (zat (Below.refl _ _)) rfl (fun _ _ a b=>zab a b) (fun w1 w2 v hb ⟨g,h1,h2,h3⟩=>⟨g,h1,h2,h3.below hb⟩) ?_
   intro F Fz hF hFz
   simp only [fill,tailV,dstAt] at hF hFz
   simp [Act.put] at hF hFz
   obtain rfl:F = fun vb va=>_:=funext fun vb=>funext fun va=>(hF vb va).symm
   obtain rfl:Fz = fun vb va=>_:=funext fun vb=>funext fun va=>(hFz vb va).symm
   clear hF hFz
   refine ⟨?_,?_,?_,?_,?_⟩
   ·intro i op ho n1 n2 n3 vb va wx S
    have HS:=hdq S
    have RX:=HR6.out.below S
    have d0:wx.cell? ⟨g6,0,none⟩ = some (.int .u32 (q.1:Int)):=RX.cell 0
    have d1:wx.cell? ⟨g6,1,none⟩ = some (.int .i64 (q.2:Int)):=RX.cell 1
    have l1:(Sc.dec q.1).length + 1≤9223372036854775807:=by have:=HQL.out; omega
    have l2:(Sc.dec q.1).length + 1 + (Sc.dec q.2).length≤9223372036854775807:=by have:=HQL.out; omega
    rcases i with _ | _ | _ | _ | _ | _ | _ | _ | _ | _ | _ | _ | i
    all_goals (first | (exact absurd rfl n1) | (exact absurd rfl n2) | (exact absurd rfl n3) | (simp at ho; done) | (obtain rfl:=Option.some.inj ho))
    ·exact zas rfl (Below.refl _ _) (by go_simp)
    ·exact zas rfl (Below.refl _ _) (by go_simp)
    ·exact zas rfl (Below.refl _ _) (by go_simp)
    ·exact zcy rfl rfl Tryz.func116 (by kernel_rfl) rfl #[.int .u32 (q.1:Int)] (by go_simp) (HN1.out wx ((HM.out.below (zab HBQ.out HS.out)).g5.glb))
    ·exact zas rfl (Below.refl _ _) (by go_simp)
    ·exact zas rfl (Below.refl _ _) (by go_simp)
    ·exact zas rfl (Below.refl _ _) (by go_simp)
    ·exact zcy rfl rfl Tryz.func117 (by kernel_rfl) rfl #[.int .i64 (q.2:Int),.int .i64 10] (by go_simp) (HN2.out wx ((HM.out.below (zab HBQ.out HS.out)).g5.glb))
    ·exact zas rfl (Below.refl _ _) (by go_simp)
   ·intro op ho vb va wx S
    obtain rfl:=Option.some.inj ho
    exact ⟨rfl,_,wx.alloc (.cells (sv [prt q]).toArray 9),by go_simp; rw [str_prt]; rfl,zaa (Below.refl _ wx) _,wx.heap.size,S.size,rfl,Row.new wx _ _⟩
   ·intro op ho vb va wx S ⟨g,hg,hv,RG⟩
    obtain rfl:=Option.some.inj ho
    subst hv
    obtain ⟨v',w',hr,ho',hb',hk'⟩:=zlc wx w.heap.size 137 (u4) ((o.parts.take k).map prt) [prt q] (zai HOQ.out S) g RG (by have:=HPL.out.1; simp; omega) (Nat.le_trans HBQ.out.size S.size)
    obtain ⟨r1,r2⟩:=hk' gx _ _ (HXQ.out.below S) HNX.out
    obtain ⟨r3,r4⟩:=hk' gs _ _ (HSQ.out.below S) HNS.out
    exact ⟨rfl,v',w',zao _ _ _ _ rfl rfl rfl hr,ho',(zab HBQ.out S).trans hb',r1,r3,r4,r2⟩
   ·intro op ho vb va wx
    obtain rfl:=Option.some.inj ho
    exact ⟨rfl,_,_,by go_simp,rfl,rfl⟩
   ·intro vb va wx ⟨hown,hb,hrx,hrs,hns,hnx⟩
    go_wp2_with fail
    exact ⟨⟨k + 1,HI.out,by simp,by rw [HTK.out]; exact hown,hb,hrx,hrs,hns,hnx⟩,by have:=HI.out; simp [intOf]; omega⟩
  ·obtain rfl:k = o.parts.length:=by omega
   have i1:¬ (o.parts.length:Int) < (o.parts.length:Int):=by omega
   have hHO:=HOW3.out
   rw [List.take_length] at hHO
   have HOV:=hdq hHO
   have HOWN3:=hdq (zpr (n:=1) HSB3.out (show w.heap.size≤gs by have:=HGS.out; have:=HGX.out; omega) rfl (by simp))
   clear hHO hlt hk
   have c0:wr.cell? ⟨gx,0,none⟩ = some (.int .i64 4):=HRX3.out.cell 0
   obtain ⟨ov,hov⟩:∃ v,v = u4:=⟨_,rfl⟩
   rw [← hov] at HOV ⊢
   obtain ⟨xj,hxj⟩:∃ x,x = Lib.join (o.parts.map prt) [44,32]:=⟨_,rfl⟩
   rw [← hxj] at HJO HLEN
   have HXJ:=hdq hxj
   clear hov HOW3 HNE hxj
   go_wp2_with fail
   clear c0
   refine zfp (n:=12) 9 10 11 6 (by kernel_rfl) (fun w'=>Below wr.heap.size wr w') (fun w' v=>∃ g,wr.heap.size≤g∧v = .slice (some ⟨g,0,none⟩) 3 3∧Row w' g (sv [x3,x2,xj]).toArray 9) (fun w' v=>w'.ownsRow w.heap.size 9 1 v ([x1,x3,x2,xj]).length (sv ([x1,x3,x2,xj]))∧Below w.heap.size w w')
    (fun i=>(#[.slice (some ⟨gs,0,none⟩) 1 1,.pointer (some ⟨gx,1,none⟩),.int .u32 (o.fr:Int),.string ⟨x3.toArray⟩,.pointer (some ⟨gx,0,none⟩),.int .i64 4,.string ⟨x2.toArray⟩,ov,.string ⟨xj.toArray⟩]:Array Value).getD i undef) (by kernel_rfl) (by kernel_rfl) (by kernel_rfl) (zat (Below.refl _ _)) rfl (fun _ _ a b=>zab a b) (fun w1 w2 v hb ⟨g,h1,h2,h3⟩=>⟨g,h1,h2,h3.below hb⟩) ?_
   intro F Fz hF hFz
   simp only [fill,tailV,dstAt] at hF hFz
   simp [Act.put] at hF hFz
   obtain rfl:F = fun vb va=>_:=funext fun vb=>funext fun va=>(hF vb va).symm
   obtain rfl:Fz = fun vb va=>_:=funext fun vb=>funext fun va=>(hFz vb va).symm
   clear hF hFz
   refine ⟨?_,?_,?_,?_,?_⟩
   ·intro i op ho n1 n2 n3 vb va wx S
    have HS:=hdq S
    have RX:=HRX3.out.below S
    have d0:wx.cell? ⟨gx,0,none⟩ = some (.int .i64 4):=RX.cell 0
    have d1:wx.cell? ⟨gx,1,none⟩ = some (.int .u32 (o.fr:Int)):=RX.cell 1
    rcases i with _ | _ | _ | _ | _ | _ | _ | _ | _ | _ | _ | _ | i
    all_goals (first | (exact absurd rfl n1) | (exact absurd rfl n2) | (exact absurd rfl n3) | (simp at ho; done) | (obtain rfl:=Option.some.inj ho))
    ·exact zas rfl (Below.refl _ _) (by go_simp)
    ·exact zas rfl (Below.refl _ _) (by go_simp)
    ·exact zas rfl (Below.refl _ _) (by go_simp)
    ·exact zcy rfl rfl Tryz.func116 (by kernel_rfl) rfl #[.int .u32 (o.fr:Int)] (by go_simp) (HF.out wx ((HM.out.below (zab HBW3.out HS.out)).g5.glb))
    ·exact zas rfl (Below.refl _ _) (by go_simp)
    ·exact zas rfl (Below.refl _ _) (by go_simp)
    ·exact zcy rfl rfl Tryz.func113 (by kernel_rfl) rfl #[.int .i64 4] (by go_simp) ((HL.out wx (HM.out.below (zab HBW3.out HS.out))).mono fun e w' ⟨a,b⟩=>⟨a,b ▸ Below.refl _ _⟩)
    ·exact zas rfl (Below.refl _ _) (by go_simp)
    ·exact zcy rfl rfl Tryz.func118 (by kernel_rfl) rfl #[ov,.string ⟨#[44,32]⟩] (by go_simp) (HJO.out ov wx (zai HOV.out S))
   ·intro op ho vb va wx S
    obtain rfl:=Option.some.inj ho
    exact ⟨rfl,_,wx.alloc (.cells (sv [x3,x2,xj]).toArray 9),by go_simp; rfl,zaa (Below.refl _ wx) _,wx.heap.size,S.size,rfl,Row.new wx _ _⟩
   ·intro op ho vb va wx S ⟨g,hg,hv,RG⟩
    obtain rfl:=Option.some.inj ho
    subst hv
    obtain ⟨v',w',hr,ho',hb'⟩:=zox wx w.heap.size 137 (.slice (some ⟨gs,0,none⟩) 1 1) [x1] [x3,x2,xj] (zai HOWN3.out S) g RG (by simp) (Nat.le_trans HBW3.out.size S.size)
    exact ⟨rfl,v',w',zao _ _ _ _ rfl rfl rfl hr,ho',(zab HBW3.out S).trans hb'⟩
   ·intro op ho vb va wx
    obtain rfl:=Option.some.inj ho
    exact ⟨rfl,_,_,by go_simp,rfl,rfl⟩
   ·intro vb va wx ⟨hown,hb⟩
    have HJ:=hdq (zmg w.heap.size _ va ([x1,x3,x2,xj]) [32] wx hown (by simp) (by have:=HLEN.out; omega))
    have HBX:=hdq hb
    clear hown hb
    go_wp2_with fail
    refine HJ.out.mono ?_
    rintro _ wz ⟨rfl,hb⟩
    have HBZ:=hdq (zab HBX.out hb)
    have hzl:=HLEN.out
    obtain ⟨z,hz⟩:∃ z,z = Lib.join ([x1,x3,x2,xj]) [32]:=⟨_,rfl⟩
    rw [← hz] at hzl ⊢
    have HZ:=hdq hz
    clear hb hz
    go_wp2
    go_ret
    refine ⟨?_,HBZ.out⟩
    show Ending.returned (.string (⟨z.toArray⟩ ++ ⟨#[59]⟩)) = _
    rw [HZ.out,zpm,HXJ.out]
    all_goals rfl
def o13:Sc.Op:=⟨4,1,0,[],[(2,3),(4,1)],[],0,0⟩
theorem text13:Sc.text Dy.text o13 = [115,112,108,105,116,32,49,32,105,110,116,111,32,50,32,51,44,32,52,32,49,59]:=by
 unfold Sc.text
 rw [if_neg (by decide),if_pos (by decide)]
 decide +kernel
theorem zix (k:IntKind) (w:World):NsAt k w (.slice none 0 0) []:=⟨none,0,rfl,.inl rfl⟩
theorem pts_row {w:World} {g cap:Nat} {t:TypeId} (l:List (Nat × Nat)) (R:Row w g (l.flatMap ptv).toArray t):PtsAt w (.slice (some ⟨g,0,none⟩) l.length cap) l:=by
 refine ⟨_,cap,rfl,.inr ⟨g,0,rfl,fun i hi j v hv=>?_⟩⟩
 rw [Nat.zero_add,R.cell]
 have key:∀ (l:List (Nat × Nat)) (i:Nat),i < l.length→∀ j v,(ptv (l.getD i (0,0)))[j]? = some v→(l.flatMap ptv)[i * 2 + j]? = some v:=fun l=>by
  induction l with
  | nil=>intro i h; simp at h
  | cons p l ih =>
   intro i hi j v hv
   have hj:j < 2:=by
    by_cases c:j < 2
    ·exact c
    ·rw [List.getElem?_eq_none (by show 2≤j; omega)] at hv; cases hv
   rw [List.flatMap_cons]
   rcases i with _ | i
   ·rw [List.getElem?_append_left (by show 0 * 2 + j < 2; omega)]
    simpa using hv
   ·rw [List.getElem?_append_right (by show 2≤(i + 1) * 2 + j; omega),show (i + 1) * 2 + j - (ptv p).length = i * 2 + j by show (i + 1) * 2 + j - 2 = _; omega]
    exact ih i (by simpa using hi) j v (by simpa using hv)
 simpa using key l i hi j v hv
set_option maxHeartbeats 1000000 in
theorem awake13 (w:World) (hG:Glb13 w):Calls Tryz.prog 48 #[] w fun e w'=>e = .returned (.bool true)∧Below w.heap.size w w':=by
 have HG:=hdq hG
 clear hG
 go_enter Tryz.func48,Tryz.ntmps48
 go_wp2_with fail
 have R1:=Row.new w ([((2:Nat),(3:Nat)),(4,1)].flatMap ptv).toArray 89
 have B1:=zaa (Below.refl _ w) (.cells ([((2:Nat),(3:Nat)),(4,1)].flatMap ptv).toArray 89)
 have B2:=zaa B1 (.cells #[.int .i64 4,.int .u32 1,.int .u32 0,.string ⟨#[]⟩,.slice (some ⟨w.heap.size,0,none⟩) 2 2,.slice none 0 0,.int .i32 0,.int .i64 0] 47)
 have hT:=znc o13 (.slice (some ⟨w.heap.size,0,none⟩) 2 2) (.slice none 0 0) ⟨by decide,by decide,by decide,by decide,⟨fun _=>by decide,by decide,by decide⟩,by decide,by decide⟩ rfl _ (pts_row (cap:=2) [(2,3),(4,1)] (R1.alloc (.cells #[.int .i64 4,.int .u32 1,.int .u32 0,.string ⟨#[]⟩,.slice (some ⟨w.heap.size,0,none⟩) 2 2,.slice none 0 0,.int .i32 0,.int .i64 0] 47))) (HG.out.below B2)
 rw [text13] at hT
 refine hT.mono ?_
 rintro _ w1 ⟨rfl,hb⟩
 have HB1:=hdq (zab B2 hb)
 clear hT R1 B1 B2 hb
 go_wp2_with fail
 refine (zba 6 _).mono ?_
 rintro _ w2 ⟨rfl,rfl⟩
 go_wp2_with fail
 refine (awake12 _ (HG.out.below HB1.out).g5).mono ?_
 rintro _ w5 ⟨rfl,hb5⟩
 go_wp2
 go_ret
 exact ⟨rfl,zab HB1.out hb5⟩
end Go.Proofs.YtlpdfglbdijkoaaGreatDoor