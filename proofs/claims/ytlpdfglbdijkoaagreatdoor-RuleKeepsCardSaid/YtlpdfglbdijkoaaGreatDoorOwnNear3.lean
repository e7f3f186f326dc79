/-
  Own texts, several in one (Near3, Near4, Near5, Near7).
-/
import Derived.Test.YtlpdfglbdijkoaaGreatDoorOwnRule6
namespace Go.Proofs.YtlpdfglbdijkoaaGreatDoor
open Go.RowKit
set_option linter.unusedVariables false
set_option linter.unusedSimpArgs false
set_option maxHeartbeats 16000000 in
set_option maxRecDepth 100000 in
theorem near_3 (c:List Ac) (u kk:List Int) (cv uv kv:Value) (en:Int) (x:Sc.O) (vp vl:Value) (w:World) (hc:CsAt w cv c) (hu:NsAt .u16 w uv u) (hk:NsAt .i32 w kv kk) (hc0:0 < c.length) (hc1:c.length≤1000) (hu0:0 < u.length) (hu1:u.length≤1000) (hub:∀ z ∈ u,0≤z∧z≤65535) (hk0:0 < kk.length) (hk1:kk.length≤1000) (hx:x.ok) (hP:PosAt w vp x.parts) (hL:NsAt .u8 w vl x.long) (hxk:x.kind % 8 = 3) :
  Calls Tryz.prog 11 #[.agg #[cv,uv,kv,.int .i32 en],.agg (ov x vp vl).toArray] w (NearOk w):=by
 obtain ⟨pc,cc,rfl,hEc⟩:=hc
 obtain ⟨pu,cu,rfl,hEu⟩:=hu
 obtain ⟨pk,ck,rfl,hEk⟩:=hk
 obtain ⟨bc,oc,rfl,hcc⟩:∃ b o,pc = some ⟨b,o,none⟩∧∀ i,i < c.length→w.rangeAt b (o + i * 4) (ac (c.getD i ac0)):=by
  rcases hEc with h | h
  ·rw [h] at hc0; simp at hc0
  ·exact h
 obtain ⟨bu,ou,rfl,huu⟩:∃ b o,pu = some ⟨b,o,none⟩∧∀ i,i < u.length→w.cell? ⟨b,o + i,none⟩ = some (.int .u16 (u.getD i 0)):=by
  rcases hEu with h | h
  ·rw [h] at hu0; simp at hu0
  ·exact h
 obtain ⟨bk,ok,rfl,hkk⟩:∃ b o,pk = some ⟨b,o,none⟩∧∀ i,i < kk.length→w.cell? ⟨b,o + i,none⟩ = some (.int .i32 (kk.getD i 0)):=by
  rcases hEk with h | h
  ·rw [h] at hk0; simp at hk0
  ·exact h
 have HRAW:=hdq fun W (hb:Below w.heap.size w W)=>zdx x hx vp vl W (hP.below hb) (hL.below hb)
 obtain ⟨pp,cp,rfl,_⟩:=id hP
 obtain ⟨pl,cl,rfl,_⟩:=id hL
 obtain ⟨np,hnp⟩:∃ n,n = x.parts.length:=⟨_,rfl⟩
 have HCU:=hdq (And.intro hcc (And.intro huu hkk))
 have HLN:=hdq (And.intro hc0 (And.intro hc1 (And.intro hu0 (And.intro hu1 (And.intro hk0 hk1)))))
 have HUB:=hdq hub
 have HX:=hdq hx
 have HLL:=hdq hL
 have HCAN:=hdq (Sc.raw_can x hx)
 have hkx:(Sc.raw x).kind = x.kind % 8:=zci x
 obtain ⟨o,ho⟩:∃ o,o = Sc.raw x:=⟨_,rfl⟩
 rw [← ho] at HCAN hkx HRAW
 have HKX:=hdq hkx
 unfold ov at *
 rw [← hnp] at HRAW ⊢
 have HOO:=hdq ho
 obtain ⟨w0,hw0⟩:∃ w0,w0 = ((w.alloc (.cells #[.slice (some ⟨bc,oc,none⟩) c.length cc,.slice (some ⟨bu,ou,none⟩) u.length cu,.slice (some ⟨bk,ok,none⟩) kk.length ck,.int .i32 en] 41)).alloc (.cells #[.int .u8 (x.kind:Int),.int .u8 (x.a:Int),.int .u8 (x.b:Int),.int .u8 (x.nm:Int),.slice pp np cp,.int .i16 x.first,.slice pl x.long.length cl] 31)).alloc (.cells #[.int .i64 0,.int .u32 0,.int .u32 0,.string ⟨#[]⟩,.slice none 0 0,.slice none 0 0,.int .i32 0,.int .i64 0] 47):=⟨_,rfl⟩
 have hsz0:w0.heap.size = w.heap.size + 3:=by rw [hw0]; simp
 have B0:Below w.heap.size w w0:=by rw [hw0]; exact zaa (zaa (zaa (Below.refl _ w) _) _) _
 have RF:Row w0 w.heap.size #[.slice (some ⟨bc,oc,none⟩) c.length cc,.slice (some ⟨bu,ou,none⟩) u.length cu,.slice (some ⟨bk,ok,none⟩) kk.length ck,.int .i32 en] 41:=by rw [hw0]; exact ((Row.new w _ _).alloc _).alloc _
 have RX:Row w0 (w.heap.size + 1) #[.int .u8 (x.kind:Int),.int .u8 (x.a:Int),.int .u8 (x.b:Int),.int .u8 (x.nm:Int),.slice pp np cp,.int .i16 x.first,.slice pl x.long.length cl] 31:=by rw [hw0]; exact (Row.new' _ _ _ (by simp)).alloc _
 have RZ:Row w0 (w.heap.size + 2) #[.int .i64 0,.int .u32 0,.int .u32 0,.string ⟨#[]⟩,.slice none 0 0,.slice none 0 0,.int .i32 0,.int .i64 0] 47:=by rw [hw0]; exact Row.new' _ _ _ (by simp)
 have HB0:=hdq B0
 have HRF0:=hdq RF
 have HRX0:=hdq RX
 have HRZ0:=hdq RZ
 clear hEc hEu hEk hcc huu hkk hc0 hc1 hu0 hu1 hub hk0 hk1 hx hP hL B0 RF RX RZ ho hnp hkx
 go_enter Tryz.func11,Tryz.ntmps11
 have y0:w0.cell? ⟨(w.heap.size + 1),0,none⟩ = some (.int .u8 (x.kind:Int)):=HRX0.out.cell 0
 have y1:w0.cell? ⟨(w.heap.size + 1),1,none⟩ = some (.int .u8 (x.a:Int)):=HRX0.out.cell 1
 have y2:w0.cell? ⟨(w.heap.size + 1),2,none⟩ = some (.int .u8 (x.b:Int)):=HRX0.out.cell 2
 have y3:w0.cell? ⟨(w.heap.size + 1),3,none⟩ = some (.int .u8 (x.nm:Int)):=HRX0.out.cell 3
 have y4:w0.cell? ⟨(w.heap.size + 1),4,none⟩ = some (.slice pp np cp):=HRX0.out.cell 4
 have y5:w0.cell? ⟨(w.heap.size + 1),5,none⟩ = some (.int .i16 x.first):=HRX0.out.cell 5
 have y6:w0.cell? ⟨(w.heap.size + 1),6,none⟩ = some (.slice pl x.long.length cl):=HRX0.out.cell 6
 rw [hw0] at y0 y1 y2 y3 y4 y5 y6
 go_wp2_with fail
 rw [← hw0]
 refine (HRAW.out _ HB0.out).mono ?_
 clear y0 y1 y2 y3 y4 y5 y6
 rintro _ w1 ⟨v1,v2,rfl,hP1,hN2,hfr1,hfr2,hb⟩
 obtain ⟨q1,k1,rfl,hx1⟩:=id hP1
 obtain ⟨q2,k2,rfl,hx2⟩:=id hN2
 obtain ⟨n1,hn1⟩:∃ n,n = o.parts.length:=⟨_,rfl⟩
 obtain ⟨n2,hn2⟩:∃ n,n = o.starts.length:=⟨_,rfl⟩
 rw [← hn1] at hP1 hfr1 ⊢
 rw [← hn2] at hN2 hfr2 ⊢
 have HN12:=hdq (And.intro hn1 hn2)
 unfold opc
 clear hx1 hx2 hn1 hn2
 replace hfr1:∀ g,(Value.slice q1 n1 k1).ownBlock = some g→w.heap.size + 3≤g∧g < w1.heap.size:=fun g e=>by have:=hfr1 g e; omega
 replace hfr2:∀ g,(Value.slice q2 n2 k2).ownBlock = some g→w.heap.size + 3≤g∧g < w1.heap.size:=fun g e=>by have:=hfr2 g e; omega
 obtain ⟨g5,hg5⟩:∃ g,g = w1.heap.size:=⟨_,rfl⟩
 obtain ⟨w2,hw2⟩:∃ w2,w2 = w1.alloc (.cells #[.int .i64 (o.kind:Int),.int .u32 (o.fr:Int),.int .u32 (o.too:Int),.string ⟨o.name.toArray⟩,.slice q1 n1 k1,.slice q2 n2 k2,.int .i32 o.fin,.int .i64 (o.pos:Int)] 47):=⟨_,rfl⟩
 have R5:Row w2 g5 (opQ o (.int .u32 (o.fr:Int)) (.int .u32 (o.too:Int)) (.slice q1 n1 k1) (.slice q2 n2 k2) o.fin) 47:=by rw [hg5,hw2]; exact Row.new w1 _ _
 have HR5:=hdq R5
 have HRF1:=hdq (show Row w2 w.heap.size #[.slice (some ⟨bc,oc,none⟩) c.length cc,.slice (some ⟨bu,ou,none⟩) u.length cu,.slice (some ⟨bk,ok,none⟩) kk.length ck,.int .i32 en] 41 by rw [hw2]; exact (HRF0.out.below hb).alloc _)
 have HRX1:=hdq (show Row w2 (w.heap.size + 1) #[.int .u8 (x.kind:Int),.int .u8 (x.a:Int),.int .u8 (x.b:Int),.int .u8 (x.nm:Int),.slice pp np cp,.int .i16 x.first,.slice pl x.long.length cl] 31 by rw [hw2]; exact (HRX0.out.below hb).alloc _)
 have HRZ1:=hdq (show Row w2 (w.heap.size + 2) #[.int .i64 0,.int .u32 0,.int .u32 0,.string ⟨#[]⟩,.slice none 0 0,.slice none 0 0,.int .i32 0,.int .i64 0] 47 by rw [hw2]; exact (HRZ0.out.below hb).alloc _)
 have HB1:=hdq (show Below w.heap.size w w2 by rw [hw2]; exact zaa (zab HB0.out hb) _)
 have HG5:=hdq (show (w.heap.size + 2) < g5 by have:=(HRZ0.out.below hb).lt; omega)
 have hok1:okR w2 (⟨(o.kind:Int),o.fr,o.too,⟨o.name.toArray⟩,o.parts.map fun p=>(p.1,(p.2:Int)),o.starts,o.fin,(o.pos:Int)⟩:RO) (.slice q1 n1 k1) (.slice q2 n2 k2):=by rw [hw2]; exact ⟨(zeg hP1).below (zaa (Below.refl _ w1) _),hN2.below (zaa (Below.refl _ w1) _)⟩
 have HOK:=hdq hok1
 have hoff:(∀ b off,q1 = some ⟨b,off,none⟩→b ≠ g5∧b ≠ (w.heap.size + 2))∧∀ b off,q2 = some ⟨b,off,none⟩→b ≠ g5∧b ≠ (w.heap.size + 2):=by
  have hz:=(HRZ0.out.below (Below.refl _ _)).lt
  have hz2:w0.heap.size = (w.heap.size + 2) + 1:=by rw [hw0]; simp
  refine ⟨fun b off e=>?_,fun b off e=>?_⟩
  ·subst e
   have:=hfr1 b rfl
   omega
  ·subst e
   have:=hfr2 b rfl
   omega
 have HOFF:=hdq hoff
 have f0:w2.cell? ⟨w.heap.size,0,none⟩ = some (.slice (some ⟨bc,oc,none⟩) c.length cc):=HRF1.out.cell 0
 have f1:w2.cell? ⟨w.heap.size,1,none⟩ = some (.slice (some ⟨bu,ou,none⟩) u.length cu):=HRF1.out.cell 1
 have f2:w2.cell? ⟨w.heap.size,2,none⟩ = some (.slice (some ⟨bk,ok,none⟩) kk.length ck):=HRF1.out.cell 2
 have f3:w2.cell? ⟨w.heap.size,3,none⟩ = some (.int .i32 en):=HRF1.out.cell 3
 have x1:w2.cell? ⟨(w.heap.size + 1),1,none⟩ = some (.int .u8 (x.a:Int)):=HRX1.out.cell 1
 have x2:w2.cell? ⟨(w.heap.size + 1),2,none⟩ = some (.int .u8 (x.b:Int)):=HRX1.out.cell 2
 have x6:w2.cell? ⟨(w.heap.size + 1),6,none⟩ = some (.slice pl x.long.length cl):=HRX1.out.cell 6
 have d0:w2.cell? ⟨g5,0,none⟩ = some (.int .i64 (o.kind:Int)):=R5.cell 0
 rw [hg5] at d0
 rw [hw2] at d0 f0 f1 f2 f3 x1 x2 x6
 have l1:((c.length:Int) == 0) = false:=beq_eq_false_iff_ne.2 (by have:=HLN.out; omega)
 have l2:((u.length:Int) == 0) = false:=beq_eq_false_iff_ne.2 (by have:=HLN.out; omega)
 have e3:((o.kind:Int) == 3) = true:=by rw [HKX.out,hxk]; rfl
 have e0:((o.kind:Int) == 0) = false:=beq_eq_false_iff_ne.2 (by rw [HKX.out]; omega)
 have e1:((o.kind:Int) == 1) = false:=beq_eq_false_iff_ne.2 (by rw [HKX.out]; omega)
 have e2:((o.kind:Int) == 2) = false:=beq_eq_false_iff_ne.2 (by rw [HKX.out]; omega)
 have e4:((o.kind:Int) == 4) = false:=beq_eq_false_iff_ne.2 (by rw [HKX.out]; omega)
 have e5:((o.kind:Int) == 5) = false:=beq_eq_false_iff_ne.2 (by rw [HKX.out]; omega)
 have e6:((o.kind:Int) == 6) = false:=beq_eq_false_iff_ne.2 (by rw [HKX.out]; omega)
 have e7:((o.kind:Int) == 7) = false:=beq_eq_false_iff_ne.2 (by rw [HKX.out]; omega)
 clear R5 hb hP1 hN2 hok1 hoff hfr1 hfr2
 go_wp2_with fail
 rw [← hg5]
 rw [← hw2]
 clear hg5 f0 f1 f2 f3 x1 x2 x6 d0 hw2 hw0 HRF0 HRX0 HRZ0 HB0
 obtain ⟨ra,hra⟩:∃ r,r = x.a % c.length:=⟨_,rfl⟩
 have hra2:ra < c.length:=by rw [hra]; exact Nat.mod_lt _ (by have:=HLN.out; omega)
 have mra:((x.a:Nat):Int).tmod (c.length:Int) = (ra:Int):=by rw [Int.tmod_eq_emod_of_nonneg (by omega),hra]; rfl
 have kra1:(0:Int)≤(ra:Int):=by omega
 have kra2:(ra:Int) < (c.length:Int):=by omega
 have qa:IntKind.i64.wrap (x.a:Int) = (x.a:Int):=by have:=HX.out.a; rw [IntKind.wrap_i64]; omega
 have q3:¬ c = []:=fun e=>by have:=HLN.out; rw [e] at this; simp at this
 obtain ⟨cd,hcd⟩:∃ z,z = (c.getD ra ac0).code:=⟨_,rfl⟩
 have ca:=zae (HCU.out.1 ra hra2 0 _ rfl) HB1.out
 rw [← hcd] at ca
 have HBU:=hdq (show bc < w.heap.size from by
  have:=HCU.out.1 ra hra2 0 _ rfl
  obtain ⟨c',e',fr',hb',_⟩:=Sort.cells_of_cell? this
  exact (Array.getElem?_eq_some_iff.1 hb').1)
 have HCA:=hdq ca
 have HRA:=hdq hra2
 clear hra hra2 hcd ca
 refine zbe (n:=14) 13 20 (by kernel_rfl) (fun w1 w2=>w2 = w1) (fun w1=>Stored w2 g5 w1∧Row w1 g5 (opQ o (.int .u32 (o.fr:Int)) (.int .u32 (o.too:Int)) (.slice q1 n1 k1) (.slice q2 n2 k2) o.fin) 47) (fun i w1 v=>v = (#[.pointer (some ⟨w.heap.size,0,none⟩),.slice (some ⟨bc,oc,none⟩) c.length cc,.pointer (some ⟨(w.heap.size + 1),1,none⟩),.int .u8 (x.a:Int),.int .i64 (x.a:Int),.pointer (some ⟨w.heap.size,0,none⟩),.slice (some ⟨bc,oc,none⟩) c.length cc,.int .i64 (c.length:Int),.int .i64 (ra:Int),.pointer (some ⟨bc,oc + ra * 4,none⟩),.pointer (some ⟨bc,oc + ra * 4,none⟩),.int .u32 (cd:Int),.pointer (some ⟨g5,1,none⟩)]:Array Value).getD i undef)
  (fun cz v w1=>Stored w2 g5 w1∧Row w1 g5 (opQ o (.int .u32 (cd:Int)) (.int .u32 (o.too:Int)) (.slice q1 n1 k1) (.slice q2 n2 k2) o.fin) 47) (by kernel_rfl) (by kernel_rfl) (by kernel_rfl) ⟨zbh (Stored.refl _ _),HR5.out⟩ rfl (fun w1 w2 a e=>e ▸ a) (fun i w1 w2 v e h=>h) ?_
 intro F Fz hF hFz
 simp only [fill,updV,dstAt] at hF hFz
 simp [Act.put] at hF hFz
 obtain rfl:F = fun cz=>_:=funext fun cz=>(hF cz).symm
 obtain rfl:Fz = fun cz v=>_:=funext fun cz=>funext fun v=>(hFz cz v).symm
 clear hF hFz
 refine ⟨?_,?_,?_⟩
 ·rintro i op ho nez cz wx ⟨S,RGv⟩ hG
  have RFx:=HRF1.out.stored S (by have:=HG5.out; omega)
  have RXx:=HRX1.out.stored S (by have:=HG5.out; omega)
  have f0:wx.cell? ⟨w.heap.size,0,none⟩ = some (.slice (some ⟨bc,oc,none⟩) c.length cc):=RFx.cell 0
  have x1:wx.cell? ⟨(w.heap.size + 1),1,none⟩ = some (.int .u8 (x.a:Int)):=RXx.cell 1
  have ea:wx.cell? ⟨bc,oc + ra * 4,none⟩ = some (.int .u32 (cd:Int)):=zbk HCA.out S (by have:=HBU.out; have:=HG5.out; omega)
  rcases i with _ | _ | _ | _ | _ | _ | _ | _ | _ | _ | _ | _ | _ | _ | i
  all_goals (first | (exact absurd rfl nez) | (simp at ho; done) | (obtain rfl:=Option.some.inj ho))
  ·exact zac (.pointer (some ⟨w.heap.size,0,none⟩)) rfl (by go_simp) ⟨rfl,rfl⟩
  ·have g0:cz 0 = .pointer (some ⟨w.heap.size,0,none⟩):=hG 0 rfl (by omega)
   exact zac (.slice (some ⟨bc,oc,none⟩) c.length cc) rfl (by simp only [g0]; go_simp) ⟨rfl,rfl⟩
  ·exact zac (.pointer (some ⟨(w.heap.size + 1),1,none⟩)) rfl (by go_simp) ⟨rfl,rfl⟩
  ·have g2:cz 2 = .pointer (some ⟨(w.heap.size + 1),1,none⟩):=hG 2 rfl (by omega)
   exact zac (.int .u8 (x.a:Int)) rfl (by simp only [g2]; go_simp) ⟨rfl,rfl⟩
  ·have g3:cz 3 = .int .u8 (x.a:Int):=hG 3 rfl (by omega)
   exact zac (.int .i64 (x.a:Int)) rfl (by simp only [g3]; go_simp) ⟨rfl,rfl⟩
  ·exact zac (.pointer (some ⟨w.heap.size,0,none⟩)) rfl (by go_simp) ⟨rfl,rfl⟩
  ·have g5:cz 5 = .pointer (some ⟨w.heap.size,0,none⟩):=hG 5 rfl (by omega)
   exact zac (.slice (some ⟨bc,oc,none⟩) c.length cc) rfl (by simp only [g5]; go_simp) ⟨rfl,rfl⟩
  ·have g6:cz 6 = .slice (some ⟨bc,oc,none⟩) c.length cc:=hG 6 rfl (by omega)
   exact zac (.int .i64 (c.length:Int)) rfl (by simp only [g6]; go_simp) ⟨rfl,rfl⟩
  ·have g4:cz 4 = .int .i64 (x.a:Int):=hG 4 rfl (by omega)
   have g7:cz 7 = .int .i64 (c.length:Int):=hG 7 rfl (by omega)
   exact zac (.int .i64 (ra:Int)) rfl (by simp only [g4,g7]; go_simp) ⟨rfl,rfl⟩
  ·have g1:cz 1 = .slice (some ⟨bc,oc,none⟩) c.length cc:=hG 1 rfl (by omega)
   have g8:cz 8 = .int .i64 (ra:Int):=hG 8 rfl (by omega)
   exact zac (.pointer (some ⟨bc,oc + ra * 4,none⟩)) rfl (by simp only [g1,g8]; go_simp) ⟨rfl,rfl⟩
  ·have g9:cz 9 = .pointer (some ⟨bc,oc + ra * 4,none⟩):=hG 9 rfl (by omega)
   exact zac (.pointer (some ⟨bc,oc + ra * 4,none⟩)) rfl (by simp only [g9]; go_simp) ⟨rfl,rfl⟩
  ·have g10:cz 10 = .pointer (some ⟨bc,oc + ra * 4,none⟩):=hG 10 rfl (by omega)
   exact zac (.int .u32 (cd:Int)) rfl (by simp only [g10]; go_simp) ⟨rfl,rfl⟩
  ·exact zac (.pointer (some ⟨g5,1,none⟩)) rfl (by go_simp) ⟨rfl,rfl⟩
 ·rintro op ho cz wx ⟨S,RGv⟩ hG
  obtain rfl:=Option.some.inj ho
  have g12:cz 12 = .pointer (some ⟨g5,1,none⟩):=hG 12 (by omega) (by omega)
  have g11:cz 11 = .int .u32 (cd:Int):=hG 11 (by omega) (by omega)
  have vo:wx.cell? ⟨g5,1,none⟩ = some (.int .u32 (o.fr:Int)):=RGv.cell 1
  have fz:wx.frozen? ⟨g5,1,none⟩ = false:=RGv.frozen 1
  exact zbu (wx.setCell ⟨g5,1,none⟩ (.int .u32 (cd:Int))) rfl (by simp only [g12,g11]; go_simp) ⟨S.trans (zaf _ _ _ _),RGv.set 1 (.int .u32 (cd:Int))⟩
 ·rintro cz v w3 ⟨S3,R3⟩
  have HS3:=hdq S3
  have HR3:=hdq R3
  have HRZ3:=hdq (HRZ1.out.stored S3 (by have:=HG5.out; omega))
  have HRX3:=hdq (HRX1.out.stored S3 (by have:=HG5.out; omega))
  have HRF3:=hdq (HRF1.out.stored S3 (by have:=HG5.out; omega))
  have HB3:=hdq (S3.below HB1.out (by have:=HG5.out; omega))
  have HCY:Hid (w3.rangeAt bc (oc + ra * 4) (ac (c.getD ra ac0))):=hdq (zah (HCU.out.1 ra HRA.out) HB3.out)
  obtain ⟨y,hy⟩:∃ y,y = c.getD ra ac0:=⟨_,rfl⟩
  rw [← hy] at HCY
  clear S3 R3 HCA hy
  have d0:w3.cell? ⟨g5,0,none⟩ = some (.int .i64 (o.kind:Int)):=HR3.out.cell 0
  go_wp2_with fail
  refine zbp (n:=13) 12 20 (by kernel_rfl) (fun w'=>Below w3.heap.size w3 w') (fun i w' v=>if i = 11 then (∃ g,v = .pointer (some ⟨g,0,none⟩)∧w3.heap.size≤g∧Row w' g #[.int .u32 0,.string ⟨#[]⟩,.int .u8 0,.int .u32 0] 61) else v = (#[.pointer (some ⟨w.heap.size,0,none⟩),.slice (some ⟨bc,oc,none⟩) c.length cc,.pointer (some ⟨(w.heap.size + 1),1,none⟩),.int .u8 (x.a:Int),.int .i64 (x.a:Int),.pointer (some ⟨w.heap.size,0,none⟩),.slice (some ⟨bc,oc,none⟩) c.length cc,.int .i64 (c.length:Int),.int .i64 (ra:Int),.pointer (some ⟨bc,oc + ra * 4,none⟩),.agg #[.int .u32 (y.code:Int),.string y.name,.int .u8 (y.kind:Int),.int .u32 (y.par:Int)],undef]:Array Value).getD i undef)
   (fun c v w'=>∃ g,c 11 = .pointer (some ⟨g,0,none⟩)∧w3.heap.size≤g∧Row w' g #[.int .u32 (y.code:Int),.string y.name,.int .u8 (y.kind:Int),.int .u32 (y.par:Int)] 61∧Below w3.heap.size w3 w') (by kernel_rfl) (by kernel_rfl) (by kernel_rfl) (zat (Below.refl _ _)) rfl (fun _ _ a b=>zab a b) (fun i w1 w2 v hb h=>by
    by_cases c:i = 11
    ·rw [if_pos c] at h ⊢; obtain ⟨g,h1,h2,h3⟩:=h; exact ⟨g,h1,h2,h3.below hb⟩
    ·rw [if_neg c] at h ⊢; exact h) ?_
  intro F Fz hF hFz
  simp only [fill,updV,dstAt] at hF hFz
  simp [Act.put] at hF hFz
  obtain rfl:F = fun cz=>_:=funext fun cz=>(hF cz).symm
  obtain rfl:Fz = fun cz v=>_:=funext fun cz=>funext fun v=>(hFz cz v).symm
  clear hF hFz
  refine ⟨?_,?_,?_⟩
  ·intro i op ho nez cz wx S hG
   have RFx:=HRF3.out.below S
   have RXx:=HRX3.out.below S
   have f0:wx.cell? ⟨w.heap.size,0,none⟩ = some (.slice (some ⟨bc,oc,none⟩) c.length cc):=RFx.cell 0
   have x1:wx.cell? ⟨(w.heap.size + 1),1,none⟩ = some (.int .u8 (x.a:Int)):=RXx.cell 1
   have cy:=zah HCY.out S
   have c0:wx.cell? ⟨bc,oc + ra * 4,none⟩ = some (.int .u32 (y.code:Int)):=cy 0 _ rfl
   have c1:wx.cell? ⟨bc,oc + ra * 4 + 1,none⟩ = some (.string y.name):=cy 1 _ rfl
   have c2:wx.cell? ⟨bc,oc + ra * 4 + 2,none⟩ = some (.int .u8 (y.kind:Int)):=cy 2 _ rfl
   have c3:wx.cell? ⟨bc,oc + ra * 4 + 3,none⟩ = some (.int .u32 (y.par:Int)):=cy 3 _ rfl
   rcases i with _ | _ | _ | _ | _ | _ | _ | _ | _ | _ | _ | _ | _ | i
   all_goals (first | (exact absurd rfl nez) | (simp at ho; done) | (obtain rfl:=Option.some.inj ho))
   ·exact zac (.pointer (some ⟨w.heap.size,0,none⟩)) rfl (by go_simp) ⟨Below.refl _ _,rfl⟩
   ·have g0:cz 0 = .pointer (some ⟨w.heap.size,0,none⟩):=hG 0 rfl (by omega)
    exact zac (.slice (some ⟨bc,oc,none⟩) c.length cc) rfl (by simp only [g0]; go_simp) ⟨Below.refl _ _,rfl⟩
   ·exact zac (.pointer (some ⟨(w.heap.size + 1),1,none⟩)) rfl (by go_simp) ⟨Below.refl _ _,rfl⟩
   ·have g2:cz 2 = .pointer (some ⟨(w.heap.size + 1),1,none⟩):=hG 2 rfl (by omega)
    exact zac (.int .u8 (x.a:Int)) rfl (by simp only [g2]; go_simp) ⟨Below.refl _ _,rfl⟩
   ·have g3:cz 3 = .int .u8 (x.a:Int):=hG 3 rfl (by omega)
    exact zac (.int .i64 (x.a:Int)) rfl (by simp only [g3]; go_simp) ⟨Below.refl _ _,rfl⟩
   ·exact zac (.pointer (some ⟨w.heap.size,0,none⟩)) rfl (by go_simp) ⟨Below.refl _ _,rfl⟩
   ·have g5:cz 5 = .pointer (some ⟨w.heap.size,0,none⟩):=hG 5 rfl (by omega)
    exact zac (.slice (some ⟨bc,oc,none⟩) c.length cc) rfl (by simp only [g5]; go_simp) ⟨Below.refl _ _,rfl⟩
   ·have g6:cz 6 = .slice (some ⟨bc,oc,none⟩) c.length cc:=hG 6 rfl (by omega)
    exact zac (.int .i64 (c.length:Int)) rfl (by simp only [g6]; go_simp) ⟨Below.refl _ _,rfl⟩
   ·have g4:cz 4 = .int .i64 (x.a:Int):=hG 4 rfl (by omega)
    have g7:cz 7 = .int .i64 (c.length:Int):=hG 7 rfl (by omega)
    exact zac (.int .i64 (ra:Int)) rfl (by simp only [g4,g7]; go_simp) ⟨Below.refl _ _,rfl⟩
   ·have g1:cz 1 = .slice (some ⟨bc,oc,none⟩) c.length cc:=hG 1 rfl (by omega)
    have g8:cz 8 = .int .i64 (ra:Int):=hG 8 rfl (by omega)
    exact zac (.pointer (some ⟨bc,oc + ra * 4,none⟩)) rfl (by simp only [g1,g8]; go_simp) ⟨Below.refl _ _,rfl⟩
   ·have g9:cz 9 = .pointer (some ⟨bc,oc + ra * 4,none⟩):=hG 9 rfl (by omega)
    exact zac (.agg #[.int .u32 (y.code:Int),.string y.name,.int .u8 (y.kind:Int),.int .u32 (y.par:Int)]) rfl (by simp only [g9]; go_simp) ⟨Below.refl _ _,rfl⟩
   ·exact zer _ (wx.alloc (.cells #[.int .u32 0,.string ⟨#[]⟩,.int .u8 0,.int .u32 0] 61)) rfl (by go_simp) ⟨zaa (Below.refl _ wx) _,wx.heap.size,rfl,S.size,Row.new wx _ _⟩
  ·intro op ho cz wx S hG
   obtain rfl:=Option.some.inj ho
   obtain ⟨g,g11,hg,RG⟩:=hG 11 (by omega) (by omega)
   have g10:cz 10 = .agg #[.int .u32 (y.code:Int),.string y.name,.int .u8 (y.kind:Int),.int .u32 (y.par:Int)]:=hG 10 (by omega) (by omega)
   exact zjz (S:=fun w'=>Row w' g #[.int .u32 (y.code:Int),.string y.name,.int .u8 (y.kind:Int),.int .u32 (y.par:Int)] 61∧Stored wx g w') (zdl rfl 61 _ _ rfl g _ g11 g10 RG (by kernel_rfl) rfl (by simp [opQ,Value.oneCell']) (fun w1 R1 S1=>⟨R1,S1⟩)) (fun w' ⟨R1,S1⟩=>⟨g,g11,hg,R1,S1.below S hg⟩)
  ·rintro c9 v9 w4 ⟨g6,g11,hg,R6,SX⟩
   simp only [g11]
   have HY:=hdq R6
   have HR4:=hdq (HR3.out.below SX)
   have HRZ4:=hdq (HRZ3.out.below SX)
   have HRX4:=hdq (HRX3.out.below SX)
   have HRF4:=hdq (HRF3.out.below SX)
   have HB4:=hdq (HB3.out.trans (SX.mono HB3.out.size))
   have HG6:=hdq (show g5 < g6 by have:=HR3.out.lt; omega)
   have HOK4:Hid (okR w4 (⟨(o.kind:Int),cd,o.too,⟨o.name.toArray⟩,o.parts.map fun p=>(p.1,(p.2:Int)),o.starts,o.fin,(o.pos:Int)⟩:RO) (.slice q1 n1 k1) (.slice q2 n2 k2)):=hdq ((zap (r':=(⟨(o.kind:Int),cd,o.too,⟨o.name.toArray⟩,o.parts.map fun p=>(p.1,(p.2:Int)),o.starts,o.fin,(o.pos:Int)⟩:RO)) HOK.out (fun b off e=>(HOFF.out.1 b off e).1) (fun b off e=>(HOFF.out.2 b off e).1) rfl rfl HS3.out).below SX)
   clear g11 hg R6 SX qa mra kra1 kra2 d0 HCY
   have f0:w4.cell? ⟨w.heap.size,0,none⟩ = some (.slice (some ⟨bc,oc,none⟩) c.length cc):=HRF4.out.cell 0
   go_wp2_with fail
   clear f0
   go_loopw [138] (fun iv wr=>∃ (k b:Nat),k≤c.length∧iv = .int .i64 (k:Int)∧Row wr g5 (opQ o (.int .u32 (cd:Int)) (.int .u32 (b:Int)) (.slice q1 n1 k1) (.slice q2 n2 k2) o.fin) 47∧Row wr g6 #[.int .u32 (y.code:Int),.string y.name,.int .u8 (y.kind:Int),.int .u32 (y.par:Int)] 61∧Row wr w.heap.size #[.slice (some ⟨bc,oc,none⟩) c.length cc,.slice (some ⟨bu,ou,none⟩) u.length cu,.slice (some ⟨bk,ok,none⟩) kk.length ck,.int .i32 en] 41∧Row wr (w.heap.size + 1) #[.int .u8 (x.kind:Int),.int .u8 (x.a:Int),.int .u8 (x.b:Int),.int .u8 (x.nm:Int),.slice pp np cp,.int .i16 x.first,.slice pl x.long.length cl] 31∧Row wr (w.heap.size + 2) #[.int .i64 0,.int .u32 0,.int .u32 0,.string ⟨#[]⟩,.slice none 0 0,.slice none 0 0,.int .i32 0,.int .i64 0] 47∧okR wr (⟨(o.kind:Int),cd,b,⟨o.name.toArray⟩,o.parts.map fun p=>(p.1,(p.2:Int)),o.starts,o.fin,(o.pos:Int)⟩:RO) (.slice q1 n1 k1) (.slice q2 n2 k2)∧Below w.heap.size w wr) (fun iv _=>c.length - (intOf iv).toNat)
   case atStart=>exact ⟨0,o.too,by omega,rfl,HR4.out,HY.out,HRF4.out,HRX4.out,HRZ4.out,HOK4.out,HB4.out⟩
   case round =>
    clear HS3 HR3 HRZ3 HRX3 HRF3 HB3 HR4 HRZ4 HRX4 HRF4 HB4 HY HOK4
    obtain ⟨k,b,hk,rfl,hr5,hr6,hrf,hrx,hrz,hokr,BB⟩:=hrel
    have HRr:=hdq hr5
    have HYr:=hdq hr6
    have HRFr:=hdq hrf
    have HRXr:=hdq hrx
    have HRZr:=hdq hrz
    have HOKr:=hdq hokr
    have HBr:=hdq BB
    obtain ⟨r4,hr4⟩:∃ z,z = x.b % 4:=⟨_,rfl⟩
    have hr42:r4 < 4:=by omega
    have mr4:((x.b:Nat):Int).tmod 4 = (r4:Int):=by rw [Int.tmod_eq_emod_of_nonneg (by omega),hr4]; rfl
    have wr3:IntKind.u8.wrap (r4:Int) = (r4:Int):=by rw [IntKind.wrap_u8]; omega
    clear hr5 hr6 hrf hrx hrz hokr BB hr4 hr42
    by_cases hlt:k < c.length
    ·have i1:(k:Int) < (c.length:Int):=by omega
     have HLT:=hdq hlt
     have e5':IntKind.i64.wrap ((k:Int) + 1) = (k:Int) + 1:=by rw [IntKind.wrap_i64]; have:=HLN.out; omega
     obtain ⟨n9,hn9⟩:∃ n,n = x.b + k:=⟨_,rfl⟩
     have wn9:IntKind.i64.wrap ((x.b:Int) + (k:Int)) = (n9:Int):=by rw [IntKind.wrap_i64]; have:=HLN.out; have:=HX.out.b; omega
     obtain ⟨rb,hrb⟩:∃ r,r = n9 % c.length:=⟨_,rfl⟩
     have hrb2:rb < c.length:=by rw [hrb]; exact Nat.mod_lt _ (by have:=HLN.out; omega)
     have mrb:((n9:Nat):Int).tmod (c.length:Int) = (rb:Int):=by rw [Int.tmod_eq_emod_of_nonneg (by omega),hrb]; rfl
     have krb1:(0:Int)≤(rb:Int):=by omega
     have krb2:(rb:Int) < (c.length:Int):=by omega
     have qb:IntKind.i64.wrap (x.b:Int) = (x.b:Int):=by have:=HX.out.b; rw [IntKind.wrap_i64]; omega
     have HCZ:Hid (wr.rangeAt bc (oc + rb * 4) (ac (c.getD rb ac0))):=hdq (zah (HCU.out.1 rb hrb2) HBr.out)
     obtain ⟨z,hz⟩:∃ z,z = c.getD rb ac0:=⟨_,rfl⟩
     rw [← hz] at HCZ
     clear hn9 hrb hrb2 hz hlt hk mr4 wr3
     go_wp2_with fail
     refine zbp (n:=15) 14 20 (by kernel_rfl) (fun w'=>Below wr.heap.size wr w') (fun i w' v=>if i = 13 then (∃ g,v = .pointer (some ⟨g,0,none⟩)∧wr.heap.size≤g∧Row w' g #[.int .u32 0,.string ⟨#[]⟩,.int .u8 0,.int .u32 0] 61) else v = (#[.pointer (some ⟨w.heap.size,0,none⟩),.slice (some ⟨bc,oc,none⟩) c.length cc,.pointer (some ⟨(w.heap.size + 1),2,none⟩),.int .u8 (x.b:Int),.int .i64 (x.b:Int),.int .i64 (k:Int),.int .i64 (n9:Int),.pointer (some ⟨w.heap.size,0,none⟩),.slice (some ⟨bc,oc,none⟩) c.length cc,.int .i64 (c.length:Int),.int .i64 (rb:Int),.pointer (some ⟨bc,oc + rb * 4,none⟩),.agg #[.int .u32 (z.code:Int),.string z.name,.int .u8 (z.kind:Int),.int .u32 (z.par:Int)],undef]:Array Value).getD i undef)
      (fun c v w'=>∃ g,c 13 = .pointer (some ⟨g,0,none⟩)∧wr.heap.size≤g∧Row w' g #[.int .u32 (z.code:Int),.string z.name,.int .u8 (z.kind:Int),.int .u32 (z.par:Int)] 61∧Below wr.heap.size wr w') (by kernel_rfl) (by kernel_rfl) (by kernel_rfl) (zat (Below.refl _ _)) rfl (fun _ _ a b=>zab a b) (fun i w1 w2 v hb h=>by
       by_cases c:i = 13
       ·rw [if_pos c] at h ⊢; obtain ⟨g,h1,h2,h3⟩:=h; exact ⟨g,h1,h2,h3.below hb⟩
       ·rw [if_neg c] at h ⊢; exact h) ?_
     intro F Fz hF hFz
     simp only [fill,updV,dstAt] at hF hFz
     simp [Act.put] at hF hFz
     obtain rfl:F = fun cz=>_:=funext fun cz=>(hF cz).symm
     obtain rfl:Fz = fun cz v=>_:=funext fun cz=>funext fun v=>(hFz cz v).symm
     clear hF hFz
     refine ⟨?_,?_,?_⟩
     ·intro i op ho nez cz wx S hG
      have RFx:=HRFr.out.below S
      have RXx:=HRXr.out.below S
      have f0:wx.cell? ⟨w.heap.size,0,none⟩ = some (.slice (some ⟨bc,oc,none⟩) c.length cc):=RFx.cell 0
      have x2:wx.cell? ⟨(w.heap.size + 1),2,none⟩ = some (.int .u8 (x.b:Int)):=RXx.cell 2
      have cz9:=zah HCZ.out S
      have c0:wx.cell? ⟨bc,oc + rb * 4,none⟩ = some (.int .u32 (z.code:Int)):=cz9 0 _ rfl
      have c1:wx.cell? ⟨bc,oc + rb * 4 + 1,none⟩ = some (.string z.name):=cz9 1 _ rfl
      have c2:wx.cell? ⟨bc,oc + rb * 4 + 2,none⟩ = some (.int .u8 (z.kind:Int)):=cz9 2 _ rfl
      have c3:wx.cell? ⟨bc,oc + rb * 4 + 3,none⟩ = some (.int .u32 (z.par:Int)):=cz9 3 _ rfl
      rcases i with _ | _ | _ | _ | _ | _ | _ | _ | _ | _ | _ | _ | _ | _ | _ | i
      all_goals (first | (exact absurd rfl nez) | (simp at ho; done) | (obtain rfl:=Option.some.inj ho))
      ·exact zac (.pointer (some ⟨w.heap.size,0,none⟩)) rfl (by go_simp) ⟨Below.refl _ _,rfl⟩
      ·have g0:cz 0 = .pointer (some ⟨w.heap.size,0,none⟩):=hG 0 rfl (by omega)
       exact zac (.slice (some ⟨bc,oc,none⟩) c.length cc) rfl (by simp only [g0]; go_simp) ⟨Below.refl _ _,rfl⟩
      ·exact zac (.pointer (some ⟨(w.heap.size + 1),2,none⟩)) rfl (by go_simp) ⟨Below.refl _ _,rfl⟩
      ·have g2:cz 2 = .pointer (some ⟨(w.heap.size + 1),2,none⟩):=hG 2 rfl (by omega)
       exact zac (.int .u8 (x.b:Int)) rfl (by simp only [g2]; go_simp) ⟨Below.refl _ _,rfl⟩
      ·have g3:cz 3 = .int .u8 (x.b:Int):=hG 3 rfl (by omega)
       exact zac (.int .i64 (x.b:Int)) rfl (by simp only [g3]; go_simp) ⟨Below.refl _ _,rfl⟩
      ·exact zac (.int .i64 (k:Int)) rfl (by go_simp) ⟨Below.refl _ _,rfl⟩
      ·have g4:cz 4 = .int .i64 (x.b:Int):=hG 4 rfl (by omega)
       have g5:cz 5 = .int .i64 (k:Int):=hG 5 rfl (by omega)
       exact zac (.int .i64 (n9:Int)) rfl (by simp only [g4,g5]; go_simp) ⟨Below.refl _ _,rfl⟩
      ·exact zac (.pointer (some ⟨w.heap.size,0,none⟩)) rfl (by go_simp) ⟨Below.refl _ _,rfl⟩
      ·have g7:cz 7 = .pointer (some ⟨w.heap.size,0,none⟩):=hG 7 rfl (by omega)
       exact zac (.slice (some ⟨bc,oc,none⟩) c.length cc) rfl (by simp only [g7]; go_simp) ⟨Below.refl _ _,rfl⟩
      ·have g8:cz 8 = .slice (some ⟨bc,oc,none⟩) c.length cc:=hG 8 rfl (by omega)
       exact zac (.int .i64 (c.length:Int)) rfl (by simp only [g8]; go_simp) ⟨Below.refl _ _,rfl⟩
      ·have g6:cz 6 = .int .i64 (n9:Int):=hG 6 rfl (by omega)
       have g9:cz 9 = .int .i64 (c.length:Int):=hG 9 rfl (by omega)
       exact zac (.int .i64 (rb:Int)) rfl (by simp only [g6,g9]; go_simp) ⟨Below.refl _ _,rfl⟩
      ·have g1:cz 1 = .slice (some ⟨bc,oc,none⟩) c.length cc:=hG 1 rfl (by omega)
       have g10:cz 10 = .int .i64 (rb:Int):=hG 10 rfl (by omega)
       exact zac (.pointer (some ⟨bc,oc + rb * 4,none⟩)) rfl (by simp only [g1,g10]; go_simp) ⟨Below.refl _ _,rfl⟩
      ·have g11:cz 11 = .pointer (some ⟨bc,oc + rb * 4,none⟩):=hG 11 rfl (by omega)
       exact zac (.agg #[.int .u32 (z.code:Int),.string z.name,.int .u8 (z.kind:Int),.int .u32 (z.par:Int)]) rfl (by simp only [g11]; go_simp) ⟨Below.refl _ _,rfl⟩
      ·exact zer _ (wx.alloc (.cells #[.int .u32 0,.string ⟨#[]⟩,.int .u8 0,.int .u32 0] 61)) rfl (by go_simp) ⟨zaa (Below.refl _ wx) _,wx.heap.size,rfl,S.size,Row.new wx _ _⟩
     ·intro op ho cz wx S hG
      obtain rfl:=Option.some.inj ho
      obtain ⟨g,g13,hg,RG⟩:=hG 13 (by omega) (by omega)
      have g12:cz 12 = .agg #[.int .u32 (z.code:Int),.string z.name,.int .u8 (z.kind:Int),.int .u32 (z.par:Int)]:=hG 12 (by omega) (by omega)
      exact zjz (S:=fun w'=>Row w' g #[.int .u32 (z.code:Int),.string z.name,.int .u8 (z.kind:Int),.int .u32 (z.par:Int)] 61∧Stored wx g w') (zdl rfl 61 _ _ rfl g _ g13 g12 RG (by kernel_rfl) rfl (by simp [opQ,Value.oneCell']) (fun w1 R1 S1=>⟨R1,S1⟩)) (fun w' ⟨R1,S1⟩=>⟨g,g13,hg,R1,S1.below S hg⟩)
     ·rintro c9 v9 w6 ⟨g8,g13,hg,R8,SX⟩
      simp only [g13]
      have HR6:=hdq (HRr.out.below SX)
      have hg8:g5 < g8:=by have:=HRr.out.lt; omega
      have S7:=zag g5 [.int .u32 (z.code:Int)] 2 w6
      have HR7:Hid (Row (w6.setCells g5 2 [.int .u32 (z.code:Int)]) g5 (opQ o (.int .u32 (cd:Int)) (.int .u32 (z.code:Int)) (.slice q1 n1 k1) (.slice q2 n2 k2) o.fin) 47):=hdq (Row.setCells [.int .u32 (z.code:Int)] 2 HR6.out)
      have HY7:Hid (Row (w6.setCells g5 2 [.int .u32 (z.code:Int)]) g6 #[.int .u32 (y.code:Int),.string y.name,.int .u8 (y.kind:Int),.int .u32 (y.par:Int)] 61):=hdq ((HYr.out.below SX).stored S7 (by have:=HG6.out; omega))
      have HZ7:Hid (Row (w6.setCells g5 2 [.int .u32 (z.code:Int)]) g8 #[.int .u32 (z.code:Int),.string z.name,.int .u8 (z.kind:Int),.int .u32 (z.par:Int)] 61):=hdq (R8.stored S7 (by omega))
      have HRF7:=hdq ((HRFr.out.below SX).stored S7 (by have:=HG5.out; omega))
      have HRX7:=hdq ((HRXr.out.below SX).stored S7 (by have:=HG5.out; omega))
      have HRZ7:=hdq ((HRZr.out.below SX).stored S7 (by have:=HG5.out; omega))
      have HB7:=hdq (S7.below (HBr.out.trans (SX.mono HBr.out.size)) (by have:=HG5.out; omega))
      have HOK7:Hid (okR (w6.setCells g5 2 [.int .u32 (z.code:Int)]) (⟨(o.kind:Int),cd,z.code,⟨o.name.toArray⟩,o.parts.map fun p=>(p.1,(p.2:Int)),o.starts,o.fin,(o.pos:Int)⟩:RO) (.slice q1 n1 k1) (.slice q2 n2 k2)):=hdq (zap (HOKr.out.below SX) (fun b off e=>(HOFF.out.1 b off e).1) (fun b off e=>(HOFF.out.2 b off e).1) rfl rfl S7)
      have z0:w6.cell? ⟨g8,0,none⟩ = some (.int .u32 (z.code:Int)):=R8.cell 0
      have t0:(w6.setCells g5 2 [.int .u32 (z.code:Int)]).cell? ⟨g8,0,none⟩ = some (.int .u32 (z.code:Int)):=HZ7.out.cell 0
      have t2:(w6.setCells g5 2 [.int .u32 (z.code:Int)]).cell? ⟨g8,2,none⟩ = some (.int .u8 (z.kind:Int)):=HZ7.out.cell 2
      have u0:(w6.setCells g5 2 [.int .u32 (z.code:Int)]).cell? ⟨g6,0,none⟩ = some (.int .u32 (y.code:Int)):=HY7.out.cell 0
      have u2:(w6.setCells g5 2 [.int .u32 (z.code:Int)]).cell? ⟨g6,2,none⟩ = some (.int .u8 (y.kind:Int)):=HY7.out.cell 2
      have d0:(w6.setCells g5 2 [.int .u32 (z.code:Int)]).cell? ⟨g5,0,none⟩ = some (.int .i64 (o.kind:Int)):=HR7.out.cell 0
      have x2:(w6.setCells g5 2 [.int .u32 (z.code:Int)]).cell? ⟨(w.heap.size + 1),2,none⟩ = some (.int .u8 (x.b:Int)):=HRX7.out.cell 2
      clear g13 hg R8 SX S7 hg8 wn9 mrb krb1 krb2 qb i1 q3 HCZ HRr HYr HRFr HRXr HRZr HOKr HBr
      by_cases kq:z.kind = y.kind
      ·have kz:((z.kind:Int) == (y.kind:Int)) = true:=by simp [kq]
       by_cases cq:z.code = y.code
       ·have cz1:((z.code:Int) == (y.code:Int)) = true:=by simp [cq]
        have cz2:((z.code:Int) != (y.code:Int)) = false:=by rw [bne,cz1]; rfl
        have HCQ:=hdq cq
        clear kq cq
        go_wp2_with (first | (refine zam rfl 44 _ _ rfl g5 2 (.int .u32 (z.code:Int)) rfl rfl rfl HR6.out (by kernel_rfl) (by show 2 < 8; omega) rfl rfl ?_) | fail)
        refine ⟨⟨k + 1,z.code,by have:=HLT.out; omega,by simp,HR7.out,HY7.out,HRF7.out,HRX7.out,HRZ7.out,HOK7.out,HB7.out⟩,by have:=HLT.out; simp [intOf]; omega⟩
       ·have cz1:((z.code:Int) == (y.code:Int)) = false:=beq_eq_false_iff_ne.2 (by omega)
        have cz2:((z.code:Int) != (y.code:Int)) = true:=by rw [bne,cz1]; rfl
        have mr4:((x.b:Nat):Int).tmod 4 = (((x.b % 4:Nat)):Int):=by rw [Int.tmod_eq_emod_of_nonneg (by omega)]; rfl
        have hr42:x.b % 4 < 4:=by omega
        obtain ⟨r4,hr4⟩:∃ z,z = x.b % 4:=⟨_,rfl⟩
        rw [← hr4] at mr4 hr42
        have wr3:IntKind.u8.wrap (r4:Int) = (r4:Int):=by rw [IntKind.wrap_u8]; omega
        clear kq cq hr4 hr42
        go_wp2_with (first | (refine zam rfl 44 _ _ rfl g5 2 (.int .u32 (z.code:Int)) rfl rfl rfl HR6.out (by kernel_rfl) (by show 2 < 8; omega) rfl rfl ?_) | (refine zaq (N:=202) rfl rfl 47 _ rfl g5 rfl HR7.out _ Tryz.underlying47 rfl (by kernel_rfl) ?_) | (refine zad rfl 47 _ _ rfl (w.heap.size + 2) (opQ o (.int .u32 (cd:Int)) (.int .u32 (z.code:Int)) (.slice q1 n1 k1) (.slice q2 n2 k2) o.fin) rfl rfl HRZ7.out (by kernel_rfl) rfl (by simp [opQ,Value.oneCell']) rfl ?_; intro wz RZ SZ))
        have BZ:=SZ.below HB7.out (show w.heap.size≤(w.heap.size + 2) by omega)
        refine bodyPost_ret (v:=.agg (opQ o (.int .u32 (cd:Int)) (.int .u32 (z.code:Int)) (.slice q1 n1 k1) (.slice q2 n2 k2) o.fin)) (zau rfl _ _ RZ rfl Tryz.underlying47 rfl (by kernel_rfl)) rfl ⟨(⟨(o.kind:Int),cd,z.code,⟨o.name.toArray⟩,o.parts.map fun p=>(p.1,(p.2:Int)),o.starts,o.fin,(o.pos:Int)⟩:RO),_,_,rfl,?_,by show (0:Int)≤(o.kind:Int); omega,by show (o.kind:Int) < 8; have:=HCAN.out.kind; omega,by have:=HCAN.out.name; simpa [ByteArray.size] using Nat.le_trans this (by omega),by show (o.parts.map _).length≤1000; rw [List.length_map]; have:=HCAN.out.parts.2.1; omega,BZ⟩
        exact zap HOK7.out (fun b off e=>(HOFF.out.1 b off e).2) (fun b off e=>(HOFF.out.2 b off e).2) rfl rfl SZ
      ·have kz:((z.kind:Int) == (y.kind:Int)) = false:=beq_eq_false_iff_ne.2 (by omega)
       clear kq
       go_wp2_with (first | (refine zam rfl 44 _ _ rfl g5 2 (.int .u32 (z.code:Int)) rfl rfl rfl HR6.out (by kernel_rfl) (by show 2 < 8; omega) rfl rfl ?_) | fail)
       refine ⟨⟨k + 1,z.code,by have:=HLT.out; omega,by simp,HR7.out,HY7.out,HRF7.out,HRX7.out,HRZ7.out,HOK7.out,HB7.out⟩,by have:=HLT.out; simp [intOf]; omega⟩
    ·have i1:¬ (k:Int) < (c.length:Int):=by omega
     have d0:wr.cell? ⟨g5,0,none⟩ = some (.int .i64 (o.kind:Int)):=HRr.out.cell 0
     have x2:wr.cell? ⟨(w.heap.size + 1),2,none⟩ = some (.int .u8 (x.b:Int)):=HRXr.out.cell 2
     clear hlt hk q3
     go_wp2_with (first | (refine zaq (N:=202) rfl rfl 47 _ rfl g5 rfl HRr.out _ Tryz.underlying47 rfl (by kernel_rfl) ?_) | (refine zad rfl 47 _ _ rfl (w.heap.size + 2) (opQ o (.int .u32 (cd:Int)) (.int .u32 (b:Int)) (.slice q1 n1 k1) (.slice q2 n2 k2) o.fin) rfl rfl HRZr.out (by kernel_rfl) rfl (by simp [opQ,Value.oneCell']) rfl ?_; intro wz RZ SZ))
     have BZ:=SZ.below HBr.out (show w.heap.size≤(w.heap.size + 2) by omega)
     refine bodyPost_ret (v:=.agg (opQ o (.int .u32 (cd:Int)) (.int .u32 (b:Int)) (.slice q1 n1 k1) (.slice q2 n2 k2) o.fin)) (zau rfl _ _ RZ rfl Tryz.underlying47 rfl (by kernel_rfl)) rfl ⟨(⟨(o.kind:Int),cd,b,⟨o.name.toArray⟩,o.parts.map fun p=>(p.1,(p.2:Int)),o.starts,o.fin,(o.pos:Int)⟩:RO),_,_,rfl,?_,by show (0:Int)≤(o.kind:Int); omega,by show (o.kind:Int) < 8; have:=HCAN.out.kind; omega,by have:=HCAN.out.name; simpa [ByteArray.size] using Nat.le_trans this (by omega),by show (o.parts.map _).length≤1000; rw [List.length_map]; have:=HCAN.out.parts.2.1; omega,BZ⟩
     exact zap HOKr.out (fun b off e=>(HOFF.out.1 b off e).2) (fun b off e=>(HOFF.out.2 b off e).2) rfl rfl SZ
theorem zuz:∀ (l:List (Nat × Nat)) (k a:Nat),k < l.length→(l.flatMap ptv).set (k * 2) (.int .u32 (a:Int)) = (l.set k (a,(l.getD k (0,0)).2)).flatMap ptv
 | [],k,a,h=>absurd h (Nat.not_lt_zero _)
 | q :: r,0,a,h=>rfl
 | q :: r,k + 1,a,h=>by
  have e:=zuz r k a (by simpa using h)
  rw [show (k + 1) * 2 = k * 2 + 1 + 1 by omega]
  show _ :: _ :: ((r.flatMap ptv).set (k * 2) (.int .u32 (a:Int))) = _
  rw [e]
  rfl
set_option maxHeartbeats 16000000 in
set_option maxRecDepth 100000 in
theorem near_4 (c:List Ac) (u kk:List Int) (cv uv kv:Value) (en:Int) (x:Sc.O) (vp vl:Value) (w:World) (hc:CsAt w cv c) (hu:NsAt .u16 w uv u) (hk:NsAt .i32 w kv kk) (hc0:0 < c.length) (hc1:c.length≤1000) (hu0:0 < u.length) (hu1:u.length≤1000) (hub:∀ z ∈ u,0≤z∧z≤65535) (hk0:0 < kk.length) (hk1:kk.length≤1000) (hx:x.ok) (hP:PosAt w vp x.parts) (hL:NsAt .u8 w vl x.long) (hxk:x.kind % 8 = 4) :
  Calls Tryz.prog 11 #[.agg #[cv,uv,kv,.int .i32 en],.agg (ov x vp vl).toArray] w (NearOk w):=by
 obtain ⟨pc,cc,rfl,hEc⟩:=hc
 obtain ⟨pu,cu,rfl,hEu⟩:=hu
 obtain ⟨pk,ck,rfl,hEk⟩:=hk
 obtain ⟨bc,oc,rfl,hcc⟩:∃ b o,pc = some ⟨b,o,none⟩∧∀ i,i < c.length→w.rangeAt b (o + i * 4) (ac (c.getD i ac0)):=by
  rcases hEc with h | h
  ·rw [h] at hc0; simp at hc0
  ·exact h
 obtain ⟨bu,ou,rfl,huu⟩:∃ b o,pu = some ⟨b,o,none⟩∧∀ i,i < u.length→w.cell? ⟨b,o + i,none⟩ = some (.int .u16 (u.getD i 0)):=by
  rcases hEu with h | h
  ·rw [h] at hu0; simp at hu0
  ·exact h
 obtain ⟨bk,ok,rfl,hkk⟩:∃ b o,pk = some ⟨b,o,none⟩∧∀ i,i < kk.length→w.cell? ⟨b,o + i,none⟩ = some (.int .i32 (kk.getD i 0)):=by
  rcases hEk with h | h
  ·rw [h] at hk0; simp at hk0
  ·exact h
 have HRAW:=hdq fun W (hb:Below w.heap.size w W)=>zlq x hx _ _ W (hP.below hb) (hL.below hb) hxk
 obtain ⟨pp,cp,rfl,_⟩:=id hP
 obtain ⟨pl,cl,rfl,_⟩:=id hL
 obtain ⟨np,hnp⟩:∃ n,n = x.parts.length:=⟨_,rfl⟩
 have HCU:=hdq (And.intro hcc (And.intro huu hkk))
 have HLN:=hdq (And.intro hc0 (And.intro hc1 (And.intro hu0 (And.intro hu1 (And.intro hk0 hk1)))))
 have HUB:=hdq hub
 have HX:=hdq hx
 have HLL:=hdq hL
 have HCAN:=hdq (Sc.raw_can x hx)
 have hkx:(Sc.raw x).kind = x.kind % 8:=zci x
 obtain ⟨o,ho⟩:∃ o,o = Sc.raw x:=⟨_,rfl⟩
 rw [← ho] at HCAN hkx
 have h4:Sc.raw4 x = o:=by rw [ho]; unfold Sc.raw; rw [if_neg (by omega),if_pos hxk]
 rw [h4] at HRAW
 have HKX:=hdq hkx
 unfold ov at *
 rw [← hnp] at HRAW ⊢
 have HOO:=hdq ho
 obtain ⟨w0,hw0⟩:∃ w0,w0 = ((w.alloc (.cells #[.slice (some ⟨bc,oc,none⟩) c.length cc,.slice (some ⟨bu,ou,none⟩) u.length cu,.slice (some ⟨bk,ok,none⟩) kk.length ck,.int .i32 en] 41)).alloc (.cells #[.int .u8 (x.kind:Int),.int .u8 (x.a:Int),.int .u8 (x.b:Int),.int .u8 (x.nm:Int),.slice pp np cp,.int .i16 x.first,.slice pl x.long.length cl] 31)).alloc (.cells #[.int .i64 0,.int .u32 0,.int .u32 0,.string ⟨#[]⟩,.slice none 0 0,.slice none 0 0,.int .i32 0,.int .i64 0] 47):=⟨_,rfl⟩
 have hsz0:w0.heap.size = w.heap.size + 3:=by rw [hw0]; simp
 have B0:Below w.heap.size w w0:=by rw [hw0]; exact zaa (zaa (zaa (Below.refl _ w) _) _) _
 have RF:Row w0 w.heap.size #[.slice (some ⟨bc,oc,none⟩) c.length cc,.slice (some ⟨bu,ou,none⟩) u.length cu,.slice (some ⟨bk,ok,none⟩) kk.length ck,.int .i32 en] 41:=by rw [hw0]; exact ((Row.new w _ _).alloc _).alloc _
 have RX:Row w0 (w.heap.size + 1) #[.int .u8 (x.kind:Int),.int .u8 (x.a:Int),.int .u8 (x.b:Int),.int .u8 (x.nm:Int),.slice pp np cp,.int .i16 x.first,.slice pl x.long.length cl] 31:=by rw [hw0]; exact (Row.new' _ _ _ (by simp)).alloc _
 have RZ:Row w0 (w.heap.size + 2) #[.int .i64 0,.int .u32 0,.int .u32 0,.string ⟨#[]⟩,.slice none 0 0,.slice none 0 0,.int .i32 0,.int .i64 0] 47:=by rw [hw0]; exact Row.new' _ _ _ (by simp)
 have HB0:=hdq B0
 have HRF0:=hdq RF
 have HRX0:=hdq RX
 have HRZ0:=hdq RZ
 clear hEc hEu hEk hcc huu hkk hc0 hc1 hu0 hu1 hub hk0 hk1 hx hP hL B0 RF RX RZ ho hnp hkx
 go_enter Tryz.func11,Tryz.ntmps11
 have y0:w0.cell? ⟨(w.heap.size + 1),0,none⟩ = some (.int .u8 (x.kind:Int)):=HRX0.out.cell 0
 have y1:w0.cell? ⟨(w.heap.size + 1),1,none⟩ = some (.int .u8 (x.a:Int)):=HRX0.out.cell 1
 have y2:w0.cell? ⟨(w.heap.size + 1),2,none⟩ = some (.int .u8 (x.b:Int)):=HRX0.out.cell 2
 have y3:w0.cell? ⟨(w.heap.size + 1),3,none⟩ = some (.int .u8 (x.nm:Int)):=HRX0.out.cell 3
 have y4:w0.cell? ⟨(w.heap.size + 1),4,none⟩ = some (.slice pp np cp):=HRX0.out.cell 4
 have y5:w0.cell? ⟨(w.heap.size + 1),5,none⟩ = some (.int .i16 x.first):=HRX0.out.cell 5
 have y6:w0.cell? ⟨(w.heap.size + 1),6,none⟩ = some (.slice pl x.long.length cl):=HRX0.out.cell 6
 rw [hw0] at y0 y1 y2 y3 y4 y5 y6
 go_wp2_with fail
 rw [← hw0]
 refine (HRAW.out _ HB0.out).mono ?_
 clear y0 y1 y2 y3 y4 y5 y6
 rintro _ w1 ⟨v1,rfl,own,hb⟩
 obtain ⟨_,q1,k1,hv9,hE9⟩:=zcw ptv 2 (0,0) (fun _=>rfl) (by omega) own
 subst hv9
 have hst:o.starts = []:=by rw [← h4]; rfl
 obtain ⟨n1,hn1⟩:∃ n,n = o.parts.length:=⟨_,rfl⟩
 have hP1:PtsAt w1 (.slice q1 n1 k1) o.parts:=⟨q1,k1,by rw [hn1],hE9⟩
 have hN2:NsAt .i32 w1 (.slice none 0 0) o.starts:=by rw [hst]; exact zix _ _
 obtain ⟨q2,n2,k2,e2⟩:∃ q n k,Value.slice q n k = .slice none 0 0:=⟨_,_,_,rfl⟩
 rw [← hn1] at own ⊢
 rw [← e2] at hN2
 have hfr1:∀ g,(Value.slice q1 n1 k1).ownBlock = some g→w.heap.size + 3≤g∧g < w1.heap.size:=fun g e=>by have:=zbc own e; omega
 have hfr2:∀ g,(Value.slice q2 n2 k2).ownBlock = some g→w.heap.size + 3≤g∧g < w1.heap.size:=fun g e=>by rw [e2] at e; cases e
 have HN1:=hdq (show n1≤8 by rw [hn1,← h4]; show ((1 + x.b,1) :: (x.parts.take 7).map Sc.rawPt).length≤8; rw [List.length_cons,List.length_map,List.length_take]; omega)
 have HOWN0:=hdq (show w1.ownsRow (w.heap.size + 3) 89 2 (.slice q1 n1 k1) n1 (o.parts.flatMap ptv) from ownMono own (by omega))
 unfold opc
 rw [← e2]
 clear own hE9 hst hn1 e2
 obtain ⟨g5,hg5⟩:∃ g,g = w1.heap.size:=⟨_,rfl⟩
 obtain ⟨w2,hw2⟩:∃ w2,w2 = w1.alloc (.cells #[.int .i64 (o.kind:Int),.int .u32 (o.fr:Int),.int .u32 (o.too:Int),.string ⟨o.name.toArray⟩,.slice q1 n1 k1,.slice q2 n2 k2,.int .i32 o.fin,.int .i64 (o.pos:Int)] 47):=⟨_,rfl⟩
 have R5:Row w2 g5 (opQ o (.int .u32 (o.fr:Int)) (.int .u32 (o.too:Int)) (.slice q1 n1 k1) (.slice q2 n2 k2) o.fin) 47:=by rw [hg5,hw2]; exact Row.new w1 _ _
 have HR5:=hdq R5
 have HOWN:=hdq (show w2.ownsRow (w.heap.size + 3) 89 2 (.slice q1 n1 k1) n1 (o.parts.flatMap ptv) by rw [hw2]; exact zan HOWN0.out _)
 have HRF1:=hdq (show Row w2 w.heap.size #[.slice (some ⟨bc,oc,none⟩) c.length cc,.slice (some ⟨bu,ou,none⟩) u.length cu,.slice (some ⟨bk,ok,none⟩) kk.length ck,.int .i32 en] 41 by rw [hw2]; exact (HRF0.out.below hb).alloc _)
 have HRX1:=hdq (show Row w2 (w.heap.size + 1) #[.int .u8 (x.kind:Int),.int .u8 (x.a:Int),.int .u8 (x.b:Int),.int .u8 (x.nm:Int),.slice pp np cp,.int .i16 x.first,.slice pl x.long.length cl] 31 by rw [hw2]; exact (HRX0.out.below hb).alloc _)
 have HRZ1:=hdq (show Row w2 (w.heap.size + 2) #[.int .i64 0,.int .u32 0,.int .u32 0,.string ⟨#[]⟩,.slice none 0 0,.slice none 0 0,.int .i32 0,.int .i64 0] 47 by rw [hw2]; exact (HRZ0.out.below hb).alloc _)
 have HB1:=hdq (show Below w.heap.size w w2 by rw [hw2]; exact zaa (zab HB0.out hb) _)
 have HG5:=hdq (show (w.heap.size + 2) < g5 by have:=(HRZ0.out.below hb).lt; omega)
 have hok1:okR w2 (⟨(o.kind:Int),o.fr,o.too,⟨o.name.toArray⟩,o.parts.map fun p=>(p.1,(p.2:Int)),o.starts,o.fin,(o.pos:Int)⟩:RO) (.slice q1 n1 k1) (.slice q2 n2 k2):=by rw [hw2]; exact ⟨(zeg hP1).below (zaa (Below.refl _ w1) _),hN2.below (zaa (Below.refl _ w1) _)⟩
 have HOK:=hdq hok1
 have hoff:(∀ b off,q1 = some ⟨b,off,none⟩→b ≠ g5∧b ≠ (w.heap.size + 2))∧∀ b off,q2 = some ⟨b,off,none⟩→b ≠ g5∧b ≠ (w.heap.size + 2):=by
  have hz:=(HRZ0.out.below (Below.refl _ _)).lt
  have hz2:w0.heap.size = (w.heap.size + 2) + 1:=by rw [hw0]; simp
  refine ⟨fun b off e=>?_,fun b off e=>?_⟩
  ·subst e
   have:=hfr1 b rfl
   omega
  ·subst e
   have:=hfr2 b rfl
   omega
 have HOFF:=hdq hoff
 have f0:w2.cell? ⟨w.heap.size,0,none⟩ = some (.slice (some ⟨bc,oc,none⟩) c.length cc):=HRF1.out.cell 0
 have f1:w2.cell? ⟨w.heap.size,1,none⟩ = some (.slice (some ⟨bu,ou,none⟩) u.length cu):=HRF1.out.cell 1
 have f2:w2.cell? ⟨w.heap.size,2,none⟩ = some (.slice (some ⟨bk,ok,none⟩) kk.length ck):=HRF1.out.cell 2
 have f3:w2.cell? ⟨w.heap.size,3,none⟩ = some (.int .i32 en):=HRF1.out.cell 3
 have x1:w2.cell? ⟨(w.heap.size + 1),1,none⟩ = some (.int .u8 (x.a:Int)):=HRX1.out.cell 1
 have x2:w2.cell? ⟨(w.heap.size + 1),2,none⟩ = some (.int .u8 (x.b:Int)):=HRX1.out.cell 2
 have x6:w2.cell? ⟨(w.heap.size + 1),6,none⟩ = some (.slice pl x.long.length cl):=HRX1.out.cell 6
 have d0:w2.cell? ⟨g5,0,none⟩ = some (.int .i64 (o.kind:Int)):=R5.cell 0
 rw [hg5] at d0
 rw [hw2] at d0 f0 f1 f2 f3 x1 x2 x6
 have l1:((c.length:Int) == 0) = false:=beq_eq_false_iff_ne.2 (by have:=HLN.out; omega)
 have l2:((u.length:Int) == 0) = false:=beq_eq_false_iff_ne.2 (by have:=HLN.out; omega)
 have e4:((o.kind:Int) == 4) = true:=by rw [HKX.out,hxk]; rfl
 have e0:((o.kind:Int) == 0) = false:=beq_eq_false_iff_ne.2 (by rw [HKX.out]; omega)
 have e1:((o.kind:Int) == 1) = false:=beq_eq_false_iff_ne.2 (by rw [HKX.out]; omega)
 have e2:((o.kind:Int) == 2) = false:=beq_eq_false_iff_ne.2 (by rw [HKX.out]; omega)
 have e3:((o.kind:Int) == 3) = false:=beq_eq_false_iff_ne.2 (by rw [HKX.out]; omega)
 have e5:((o.kind:Int) == 5) = false:=beq_eq_false_iff_ne.2 (by rw [HKX.out]; omega)
 have e6:((o.kind:Int) == 6) = false:=beq_eq_false_iff_ne.2 (by rw [HKX.out]; omega)
 have e7:((o.kind:Int) == 7) = false:=beq_eq_false_iff_ne.2 (by rw [HKX.out]; omega)
 clear R5 hb hP1 hN2 hok1 hoff hfr1 hfr2
 go_wp2_with fail
 rw [← hg5]
 rw [← hw2]
 clear hg5 f0 f1 f2 f3 x1 x2 x6 d0 hw2 hw0 HRF0 HRX0 HRZ0 HB0
 obtain ⟨ra,hra⟩:∃ r,r = x.a % c.length:=⟨_,rfl⟩
 have hra2:ra < c.length:=by rw [hra]; exact Nat.mod_lt _ (by have:=HLN.out; omega)
 have mra:((x.a:Nat):Int).tmod (c.length:Int) = (ra:Int):=by rw [Int.tmod_eq_emod_of_nonneg (by omega),hra]; rfl
 have kra1:(0:Int)≤(ra:Int):=by omega
 have kra2:(ra:Int) < (c.length:Int):=by omega
 have qa:IntKind.i64.wrap (x.a:Int) = (x.a:Int):=by have:=HX.out.a; rw [IntKind.wrap_i64]; omega
 have q3:¬ c = []:=fun e=>by have:=HLN.out; rw [e] at this; simp at this
 obtain ⟨cd,hcd⟩:∃ z,z = (c.getD ra ac0).code:=⟨_,rfl⟩
 have ca:=zae (HCU.out.1 ra hra2 0 _ rfl) HB1.out
 rw [← hcd] at ca
 have HBU:=hdq (show bc < w.heap.size from by
  have:=HCU.out.1 ra hra2 0 _ rfl
  obtain ⟨c',e',fr',hb',_⟩:=Sort.cells_of_cell? this
  exact (Array.getElem?_eq_some_iff.1 hb').1)
 have HCA:=hdq ca
 have HRA:=hdq hra2
 clear hra hra2 hcd ca
 refine zbe (n:=14) 13 20 (by kernel_rfl) (fun w1 w2=>w2 = w1) (fun w1=>Stored w2 g5 w1∧Row w1 g5 (opQ o (.int .u32 (o.fr:Int)) (.int .u32 (o.too:Int)) (.slice q1 n1 k1) (.slice q2 n2 k2) o.fin) 47) (fun i w1 v=>v = (#[.pointer (some ⟨w.heap.size,0,none⟩),.slice (some ⟨bc,oc,none⟩) c.length cc,.pointer (some ⟨(w.heap.size + 1),1,none⟩),.int .u8 (x.a:Int),.int .i64 (x.a:Int),.pointer (some ⟨w.heap.size,0,none⟩),.slice (some ⟨bc,oc,none⟩) c.length cc,.int .i64 (c.length:Int),.int .i64 (ra:Int),.pointer (some ⟨bc,oc + ra * 4,none⟩),.pointer (some ⟨bc,oc + ra * 4,none⟩),.int .u32 (cd:Int),.pointer (some ⟨g5,1,none⟩)]:Array Value).getD i undef)
  (fun cz v w1=>Stored w2 g5 w1∧Row w1 g5 (opQ o (.int .u32 (cd:Int)) (.int .u32 (o.too:Int)) (.slice q1 n1 k1) (.slice q2 n2 k2) o.fin) 47) (by kernel_rfl) (by kernel_rfl) (by kernel_rfl) ⟨zbh (Stored.refl _ _),HR5.out⟩ rfl (fun w1 w2 a e=>e ▸ a) (fun i w1 w2 v e h=>h) ?_
 intro F Fz hF hFz
 simp only [fill,updV,dstAt] at hF hFz
 simp [Act.put] at hF hFz
 obtain rfl:F = fun cz=>_:=funext fun cz=>(hF cz).symm
 obtain rfl:Fz = fun cz v=>_:=funext fun cz=>funext fun v=>(hFz cz v).symm
 clear hF hFz
 refine ⟨?_,?_,?_⟩
 ·rintro i op ho nez cz wx ⟨S,RGv⟩ hG
  have RFx:=HRF1.out.stored S (by have:=HG5.out; omega)
  have RXx:=HRX1.out.stored S (by have:=HG5.out; omega)
  have f0:wx.cell? ⟨w.heap.size,0,none⟩ = some (.slice (some ⟨bc,oc,none⟩) c.length cc):=RFx.cell 0
  have x1:wx.cell? ⟨(w.heap.size + 1),1,none⟩ = some (.int .u8 (x.a:Int)):=RXx.cell 1
  have ea:wx.cell? ⟨bc,oc + ra * 4,none⟩ = some (.int .u32 (cd:Int)):=zbk HCA.out S (by have:=HBU.out; have:=HG5.out; omega)
  rcases i with _ | _ | _ | _ | _ | _ | _ | _ | _ | _ | _ | _ | _ | _ | i
  all_goals (first | (exact absurd rfl nez) | (simp at ho; done) | (obtain rfl:=Option.some.inj ho))
  ·exact zac (.pointer (some ⟨w.heap.size,0,none⟩)) rfl (by go_simp) ⟨rfl,rfl⟩
  ·have g0:cz 0 = .pointer (some ⟨w.heap.size,0,none⟩):=hG 0 rfl (by omega)
   exact zac (.slice (some ⟨bc,oc,none⟩) c.length cc) rfl (by simp only [g0]; go_simp) ⟨rfl,rfl⟩
  ·exact zac (.pointer (some ⟨(w.heap.size + 1),1,none⟩)) rfl (by go_simp) ⟨rfl,rfl⟩
  ·have g2:cz 2 = .pointer (some ⟨(w.heap.size + 1),1,none⟩):=hG 2 rfl (by omega)
   exact zac (.int .u8 (x.a:Int)) rfl (by simp only [g2]; go_simp) ⟨rfl,rfl⟩
  ·have g3:cz 3 = .int .u8 (x.a:Int):=hG 3 rfl (by omega)
   exact zac (.int .i64 (x.a:Int)) rfl (by simp only [g3]; go_simp) ⟨rfl,rfl⟩
  ·exact zac (.pointer (some ⟨w.heap.size,0,none⟩)) rfl (by go_simp) ⟨rfl,rfl⟩
  ·have g5:cz 5 = .pointer (some ⟨w.heap.size,0,none⟩):=hG 5 rfl (by omega)
   exact zac (.slice (some ⟨bc,oc,none⟩) c.length cc) rfl (by simp only [g5]; go_simp) ⟨rfl,rfl⟩
  ·have g6:cz 6 = .slice (some ⟨bc,oc,none⟩) c.length cc:=hG 6 rfl (by omega)
   exact zac (.int .i64 (c.length:Int)) rfl (by simp only [g6]; go_simp) ⟨rfl,rfl⟩
  ·have g4:cz 4 = .int .i64 (x.a:Int):=hG 4 rfl (by omega)
   have g7:cz 7 = .int .i64 (c.length:Int):=hG 7 rfl (by omega)
   exact zac (.int .i64 (ra:Int)) rfl (by simp only [g4,g7]; go_simp) ⟨rfl,rfl⟩
  ·have g1:cz 1 = .slice (some ⟨bc,oc,none⟩) c.length cc:=hG 1 rfl (by omega)
   have g8:cz 8 = .int .i64 (ra:Int):=hG 8 rfl (by omega)
   exact zac (.pointer (some ⟨bc,oc + ra * 4,none⟩)) rfl (by simp only [g1,g8]; go_simp) ⟨rfl,rfl⟩
  ·have g9:cz 9 = .pointer (some ⟨bc,oc + ra * 4,none⟩):=hG 9 rfl (by omega)
   exact zac (.pointer (some ⟨bc,oc + ra * 4,none⟩)) rfl (by simp only [g9]; go_simp) ⟨rfl,rfl⟩
  ·have g10:cz 10 = .pointer (some ⟨bc,oc + ra * 4,none⟩):=hG 10 rfl (by omega)
   exact zac (.int .u32 (cd:Int)) rfl (by simp only [g10]; go_simp) ⟨rfl,rfl⟩
  ·exact zac (.pointer (some ⟨g5,1,none⟩)) rfl (by go_simp) ⟨rfl,rfl⟩
 ·rintro op ho cz wx ⟨S,RGv⟩ hG
  obtain rfl:=Option.some.inj ho
  have g12:cz 12 = .pointer (some ⟨g5,1,none⟩):=hG 12 (by omega) (by omega)
  have g11:cz 11 = .int .u32 (cd:Int):=hG 11 (by omega) (by omega)
  have vo:wx.cell? ⟨g5,1,none⟩ = some (.int .u32 (o.fr:Int)):=RGv.cell 1
  have fz:wx.frozen? ⟨g5,1,none⟩ = false:=RGv.frozen 1
  exact zbu (wx.setCell ⟨g5,1,none⟩ (.int .u32 (cd:Int))) rfl (by simp only [g12,g11]; go_simp) ⟨S.trans (zaf _ _ _ _),RGv.set 1 (.int .u32 (cd:Int))⟩
 ·rintro cz v w3 ⟨S3,R3⟩
  have HR3:=hdq R3
  have HRZ3:=hdq (HRZ1.out.stored S3 (by have:=HG5.out; omega))
  have HB3:=hdq (S3.below HB1.out (by have:=HG5.out; omega))
  have HOWN3:=hdq (zak HOWN.out S3 (zbz HOWN.out HR5.out (by show ¬ (47:Nat) = 89; omega)))
  have HS2:Hid (NsAt .i32 w3 (.slice q2 n2 k2) o.starts):=hdq (zap (r':=(⟨(o.kind:Int),cd,o.too,⟨o.name.toArray⟩,o.parts.map fun p=>(p.1,(p.2:Int)),o.starts,o.fin,(o.pos:Int)⟩:RO)) HOK.out (fun b off e=>(HOFF.out.1 b off e).1) (fun b off e=>(HOFF.out.2 b off e).1) rfl rfl S3).2
  have HST:Hid (o.starts = []):=hdq (by rw [← h4]; rfl)
  clear S3 R3 qa q3 mra kra1 HCA h4
  have d0:w3.cell? ⟨g5,0,none⟩ = some (.int .i64 (o.kind:Int)):=HR3.out.cell 0
  have d4:w3.cell? ⟨g5,4,none⟩ = some (.slice q1 n1 k1):=HR3.out.cell 4
  go_wp2_with fail
  clear d0 d4
  go_loopw [185] (fun iv wr=>∃ (k:Nat) (l:List (Nat × Nat)),k≤n1∧iv = .int .i64 (k:Int)∧wr.ownsRow (w.heap.size + 3) 89 2 (.slice q1 n1 k1) n1 (l.flatMap ptv)∧Row wr g5 (opQ o (.int .u32 (cd:Int)) (.int .u32 (o.too:Int)) (.slice q1 n1 k1) (.slice q2 n2 k2) o.fin) 47∧Row wr (w.heap.size + 2) #[.int .i64 0,.int .u32 0,.int .u32 0,.string ⟨#[]⟩,.slice none 0 0,.slice none 0 0,.int .i32 0,.int .i64 0] 47∧Below w.heap.size w wr) (fun iv _=>n1 - (intOf iv).toNat)
  case atStart=>exact ⟨0,o.parts,by omega,rfl,HOWN3.out,HR3.out,HRZ3.out,HB3.out⟩
  case round =>
   clear HR3 HRZ3 HB3 HOWN3
   obtain ⟨k,l,hk,rfl,hown,hr5,hrz,BB⟩:=hrel
   have HRr:=hdq hr5
   have HRZr:=hdq hrz
   have HBr:=hdq BB
   have HOWr:=hdq hown
   clear hr5 hrz BB
   by_cases hlt:k < n1
   ·have i0:(0:Int)≤(k:Int):=by omega
    have i1:(k:Int) < (n1:Int):=by omega
    have HLT:=hdq hlt
    have e5':IntKind.i64.wrap ((k:Int) + 1) = (k:Int) + 1:=by rw [IntKind.wrap_i64]; have:=HN1.out; omega
    obtain ⟨hn,h2⟩:=hown
    have hll:l.length * 2 = n1 * 2:=by rw [← zel ptv 2 (fun _=>rfl)]; exact hn
    rcases h2 with ⟨_,h0⟩ | ⟨g,c2,cur,e1,hg,hh,hc,hm,hs,ht⟩
    ·exact absurd h0 (by omega)
    injection e1 with e1 _ e2
    subst e1
    subst e2
    have hlk:k < l.length:=by omega
    obtain ⟨qc,qw,hq⟩:∃ a b,l.getD k (0,0) = (a,b):=⟨_,_,rfl⟩
    have hcell:cur[k * 2]? = some (.int .u32 (qc:Int)):=by
     have h:=zhj ptv 2 (0,0) (fun _=>rfl) l k hlk 0 _ rfl
     rw [← ht,hq] at h
     rw [List.getElem?_take,if_pos (by omega),Array.getElem?_toList] at h
     exact h
    have hh:Row wr g cur 89:=hh
    have c0:wr.cell? ⟨g,k * 2,none⟩ = some (.int .u32 (qc:Int)):=by rw [hh.cell]; exact hcell
    have d4:wr.cell? ⟨g5,4,none⟩ = some (.slice (some ⟨g,0,none⟩) n1 k1):=HRr.out.cell 4
    have ww1:IntKind.u32.wrap (k:Int) = (k:Int):=by rw [IntKind.wrap_u32]; have:=HN1.out; omega
    obtain ⟨m1,hm1⟩:∃ m,IntKind.u32.wrap (300 * (k:Int)) = m:=⟨_,rfl⟩
    obtain ⟨m2,hm2⟩:∃ m,IntKind.u32.wrap (2000 + m1) = m:=⟨_,rfl⟩
    obtain ⟨N,hN⟩:∃ N:Nat,IntKind.u32.wrap ((qc:Int) + m2) = (N:Int):=⟨(IntKind.u32.wrap ((qc:Int) + m2)).toNat,by rw [Int.toNat_of_nonneg (by rw [IntKind.wrap_u32]; omega)]⟩
    have hg5:g5 ≠ g:=(HOFF.out.1 g 0 rfl).1.symm
    have hg4:(w.heap.size + 2) ≠ g:=(HOFF.out.1 g 0 rfl).2.symm
    have S4:=zag g [.int .u32 (N:Int)] (k * 2) wr
    have HR4:=hdq (HRr.out.stored S4 hg5)
    have HRZ4:=hdq (HRZr.out.stored S4 hg4)
    have HB4:=hdq (S4.below HBr.out (by omega))
    have hks:k * 2 < cur.size:=by omega
    have HOW4:Hid ((wr.setCells g (k * 2) [.int .u32 (N:Int)]).ownsRow (w.heap.size + 3) 89 2 (.slice (some ⟨g,0,none⟩) n1 k1) n1 ((l.set k (N,(l.getD k (0,0)).2)).flatMap ptv)):=hdq (by
     refine ⟨by rw [zel ptv 2 (fun _=>rfl),List.length_set]; exact hll,.inr ⟨g,k1,_,rfl,hg,Row.setCells _ _ hh,hc,hm,by rw [zax]; exact hs,?_⟩⟩
     show ((cur.setIfInBounds (k * 2) (.int .u32 (N:Int))).toList.take (n1 * 2)) = _
     rw [Array.toList_setIfInBounds,List.take_set,ht,zuz l k N hlk])
    have HH:=hdq hh
    have HKS:=hdq hks
    clear hn hll hg hh hc hm hs ht hlk hq hcell S4 hks HOWr hlt hk hg5 hg4
    go_wp2_with (first | (refine zam rfl 44 _ _ rfl g (k * 2) (.int .u32 (N:Int)) rfl rfl rfl HH.out (by kernel_rfl) HKS.out rfl rfl ?_))
    refine ⟨⟨k + 1,_,by have:=HLT.out; omega,by simp,HOW4.out,HR4.out,HRZ4.out,HB4.out⟩,by have:=HLT.out; simp [intOf]; omega⟩
   ·have i1:¬ (k:Int) < (n1:Int):=by omega
    have hpt:PtsAt wr (.slice q1 n1 k1) l:=by
     obtain ⟨hll,p9,c9,hv9,hE9⟩:=zcw ptv 2 (0,0) (fun _=>rfl) (by omega) HOWr.out
     exact ⟨p9,c9,hv9,hE9⟩
    have HOKr:Hid (okR wr (⟨(o.kind:Int),cd,o.too,⟨o.name.toArray⟩,l.map fun p=>(p.1,(p.2:Int)),o.starts,o.fin,(o.pos:Int)⟩:RO) (.slice q1 n1 k1) (.slice q2 n2 k2)):=hdq ⟨zeg hpt,by
     obtain ⟨pz,cz,ez,_⟩:=HS2.out
     exact ⟨pz,cz,ez,.inl HST.out⟩⟩
    clear hown hlt hk hpt
    go_wp2_with (first | (refine zaq (N:=202) rfl rfl 47 _ rfl g5 rfl HRr.out _ Tryz.underlying47 rfl (by kernel_rfl) ?_) | (refine zad rfl 47 _ _ rfl (w.heap.size + 2) (opQ o (.int .u32 (cd:Int)) (.int .u32 (o.too:Int)) (.slice q1 n1 k1) (.slice q2 n2 k2) o.fin) rfl rfl HRZr.out (by kernel_rfl) rfl (by simp [opQ,Value.oneCell']) rfl ?_; intro wz RZ SZ))
    have BZ:=SZ.below HBr.out (show w.heap.size≤(w.heap.size + 2) by omega)
    refine bodyPost_ret (v:=.agg (opQ o (.int .u32 (cd:Int)) (.int .u32 (o.too:Int)) (.slice q1 n1 k1) (.slice q2 n2 k2) o.fin)) (zau rfl _ _ RZ rfl Tryz.underlying47 rfl (by kernel_rfl)) rfl ⟨(⟨(o.kind:Int),cd,o.too,⟨o.name.toArray⟩,l.map fun p=>(p.1,(p.2:Int)),o.starts,o.fin,(o.pos:Int)⟩:RO),_,_,rfl,?_,by show (0:Int)≤(o.kind:Int); omega,by show (o.kind:Int) < 8; have:=HCAN.out.kind; omega,by have:=HCAN.out.name; simpa [ByteArray.size] using Nat.le_trans this (by omega),by show (l.map _).length≤1000; rw [List.length_map]; have h:=HOWr.out.1; rw [zel ptv 2 (fun _=>rfl)] at h; have:=HN1.out; omega,BZ⟩
    exact zap HOKr.out (fun b off e=>(HOFF.out.1 b off e).2) (fun b off e=>(HOFF.out.2 b off e).2) rfl rfl SZ
set_option maxHeartbeats 16000000 in
set_option maxRecDepth 100000 in
theorem near_5 (c:List Ac) (u kk:List Int) (cv uv kv:Value) (en:Int) (x:Sc.O) (vp vl:Value) (w:World) (hc:CsAt w cv c) (hu:NsAt .u16 w uv u) (hk:NsAt .i32 w kv kk) (hc0:0 < c.length) (hc1:c.length≤1000) (hu0:0 < u.length) (hu1:u.length≤1000) (hub:∀ z ∈ u,0≤z∧z≤65535) (hk0:0 < kk.length) (hk1:kk.length≤1000) (hx:x.ok) (hP:PosAt w vp x.parts) (hL:NsAt .u8 w vl x.long) (hxk:x.kind % 8 = 5) :
  Calls Tryz.prog 11 #[.agg #[cv,uv,kv,.int .i32 en],.agg (ov x vp vl).toArray] w (NearOk w):=by
 obtain ⟨pc,cc,rfl,hEc⟩:=hc
 obtain ⟨pu,cu,rfl,hEu⟩:=hu
 obtain ⟨pk,ck,rfl,hEk⟩:=hk
 obtain ⟨bc,oc,rfl,hcc⟩:∃ b o,pc = some ⟨b,o,none⟩∧∀ i,i < c.length→w.rangeAt b (o + i * 4) (ac (c.getD i ac0)):=by
  rcases hEc with h | h
  ·rw [h] at hc0; simp at hc0
  ·exact h
 obtain ⟨bu,ou,rfl,huu⟩:∃ b o,pu = some ⟨b,o,none⟩∧∀ i,i < u.length→w.cell? ⟨b,o + i,none⟩ = some (.int .u16 (u.getD i 0)):=by
  rcases hEu with h | h
  ·rw [h] at hu0; simp at hu0
  ·exact h
 obtain ⟨bk,ok,rfl,hkk⟩:∃ b o,pk = some ⟨b,o,none⟩∧∀ i,i < kk.length→w.cell? ⟨b,o + i,none⟩ = some (.int .i32 (kk.getD i 0)):=by
  rcases hEk with h | h
  ·rw [h] at hk0; simp at hk0
  ·exact h
 have HRAW:=hdq fun W (hb:Below w.heap.size w W)=>zdx x hx vp vl W (hP.below hb) (hL.below hb)
 obtain ⟨pp,cp,rfl,_⟩:=id hP
 obtain ⟨pl,cl,rfl,_⟩:=id hL
 obtain ⟨np,hnp⟩:∃ n,n = x.parts.length:=⟨_,rfl⟩
 have HCU:=hdq (And.intro hcc (And.intro huu hkk))
 have HLN:=hdq (And.intro hc0 (And.intro hc1 (And.intro hu0 (And.intro hu1 (And.intro hk0 hk1)))))
 have HUB:=hdq hub
 have HX:=hdq hx
 have HLL:=hdq hL
 have HCAN:=hdq (Sc.raw_can x hx)
 have hkx:(Sc.raw x).kind = x.kind % 8:=zci x
 obtain ⟨o,ho⟩:∃ o,o = Sc.raw x:=⟨_,rfl⟩
 rw [← ho] at HCAN hkx HRAW
 have HKX:=hdq hkx
 unfold ov at *
 rw [← hnp] at HRAW ⊢
 have HOO:=hdq ho
 obtain ⟨w0,hw0⟩:∃ w0,w0 = ((w.alloc (.cells #[.slice (some ⟨bc,oc,none⟩) c.length cc,.slice (some ⟨bu,ou,none⟩) u.length cu,.slice (some ⟨bk,ok,none⟩) kk.length ck,.int .i32 en] 41)).alloc (.cells #[.int .u8 (x.kind:Int),.int .u8 (x.a:Int),.int .u8 (x.b:Int),.int .u8 (x.nm:Int),.slice pp np cp,.int .i16 x.first,.slice pl x.long.length cl] 31)).alloc (.cells #[.int .i64 0,.int .u32 0,.int .u32 0,.string ⟨#[]⟩,.slice none 0 0,.slice none 0 0,.int .i32 0,.int .i64 0] 47):=⟨_,rfl⟩
 have hsz0:w0.heap.size = w.heap.size + 3:=by rw [hw0]; simp
 have B0:Below w.heap.size w w0:=by rw [hw0]; exact zaa (zaa (zaa (Below.refl _ w) _) _) _
 have RF:Row w0 w.heap.size #[.slice (some ⟨bc,oc,none⟩) c.length cc,.slice (some ⟨bu,ou,none⟩) u.length cu,.slice (some ⟨bk,ok,none⟩) kk.length ck,.int .i32 en] 41:=by rw [hw0]; exact ((Row.new w _ _).alloc _).alloc _
 have RX:Row w0 (w.heap.size + 1) #[.int .u8 (x.kind:Int),.int .u8 (x.a:Int),.int .u8 (x.b:Int),.int .u8 (x.nm:Int),.slice pp np cp,.int .i16 x.first,.slice pl x.long.length cl] 31:=by rw [hw0]; exact (Row.new' _ _ _ (by simp)).alloc _
 have RZ:Row w0 (w.heap.size + 2) #[.int .i64 0,.int .u32 0,.int .u32 0,.string ⟨#[]⟩,.slice none 0 0,.slice none 0 0,.int .i32 0,.int .i64 0] 47:=by rw [hw0]; exact Row.new' _ _ _ (by simp)
 have HB0:=hdq B0
 have HRF0:=hdq RF
 have HRX0:=hdq RX
 have HRZ0:=hdq RZ
 clear hEc hEu hEk hcc huu hkk hc0 hc1 hu0 hu1 hub hk0 hk1 hx hP hL B0 RF RX RZ ho hnp hkx
 go_enter Tryz.func11,Tryz.ntmps11
 have y0:w0.cell? ⟨(w.heap.size + 1),0,none⟩ = some (.int .u8 (x.kind:Int)):=HRX0.out.cell 0
 have y1:w0.cell? ⟨(w.heap.size + 1),1,none⟩ = some (.int .u8 (x.a:Int)):=HRX0.out.cell 1
 have y2:w0.cell? ⟨(w.heap.size + 1),2,none⟩ = some (.int .u8 (x.b:Int)):=HRX0.out.cell 2
 have y3:w0.cell? ⟨(w.heap.size + 1),3,none⟩ = some (.int .u8 (x.nm:Int)):=HRX0.out.cell 3
 have y4:w0.cell? ⟨(w.heap.size + 1),4,none⟩ = some (.slice pp np cp):=HRX0.out.cell 4
 have y5:w0.cell? ⟨(w.heap.size + 1),5,none⟩ = some (.int .i16 x.first):=HRX0.out.cell 5
 have y6:w0.cell? ⟨(w.heap.size + 1),6,none⟩ = some (.slice pl x.long.length cl):=HRX0.out.cell 6
 rw [hw0] at y0 y1 y2 y3 y4 y5 y6
 go_wp2_with fail
 rw [← hw0]
 refine (HRAW.out _ HB0.out).mono ?_
 clear y0 y1 y2 y3 y4 y5 y6
 rintro _ w1 ⟨v1,v2,rfl,hP1,hN2,hfr1,hfr2,hb⟩
 obtain ⟨q1,k1,rfl,hx1⟩:=id hP1
 obtain ⟨q2,k2,rfl,hx2⟩:=id hN2
 obtain ⟨n1,hn1⟩:∃ n,n = o.parts.length:=⟨_,rfl⟩
 obtain ⟨n2,hn2⟩:∃ n,n = o.starts.length:=⟨_,rfl⟩
 rw [← hn1] at hP1 hfr1 ⊢
 rw [← hn2] at hN2 hfr2 ⊢
 have HN12:=hdq (And.intro hn1 hn2)
 unfold opc
 clear hx1 hx2 hn1 hn2
 replace hfr1:∀ g,(Value.slice q1 n1 k1).ownBlock = some g→w.heap.size + 3≤g∧g < w1.heap.size:=fun g e=>by have:=hfr1 g e; omega
 replace hfr2:∀ g,(Value.slice q2 n2 k2).ownBlock = some g→w.heap.size + 3≤g∧g < w1.heap.size:=fun g e=>by have:=hfr2 g e; omega
 obtain ⟨g5,hg5⟩:∃ g,g = w1.heap.size:=⟨_,rfl⟩
 obtain ⟨w2,hw2⟩:∃ w2,w2 = w1.alloc (.cells #[.int .i64 (o.kind:Int),.int .u32 (o.fr:Int),.int .u32 (o.too:Int),.string ⟨o.name.toArray⟩,.slice q1 n1 k1,.slice q2 n2 k2,.int .i32 o.fin,.int .i64 (o.pos:Int)] 47):=⟨_,rfl⟩
 have R5:Row w2 g5 (opQ o (.int .u32 (o.fr:Int)) (.int .u32 (o.too:Int)) (.slice q1 n1 k1) (.slice q2 n2 k2) o.fin) 47:=by rw [hg5,hw2]; exact Row.new w1 _ _
 have HR5:=hdq R5
 have HRF1:=hdq (show Row w2 w.heap.size #[.slice (some ⟨bc,oc,none⟩) c.length cc,.slice (some ⟨bu,ou,none⟩) u.length cu,.slice (some ⟨bk,ok,none⟩) kk.length ck,.int .i32 en] 41 by rw [hw2]; exact (HRF0.out.below hb).alloc _)
 have HRX1:=hdq (show Row w2 (w.heap.size + 1) #[.int .u8 (x.kind:Int),.int .u8 (x.a:Int),.int .u8 (x.b:Int),.int .u8 (x.nm:Int),.slice pp np cp,.int .i16 x.first,.slice pl x.long.length cl] 31 by rw [hw2]; exact (HRX0.out.below hb).alloc _)
 have HRZ1:=hdq (show Row w2 (w.heap.size + 2) #[.int .i64 0,.int .u32 0,.int .u32 0,.string ⟨#[]⟩,.slice none 0 0,.slice none 0 0,.int .i32 0,.int .i64 0] 47 by rw [hw2]; exact (HRZ0.out.below hb).alloc _)
 have HB1:=hdq (show Below w.heap.size w w2 by rw [hw2]; exact zaa (zab HB0.out hb) _)
 have HG5:=hdq (show (w.heap.size + 2) < g5 by have:=(HRZ0.out.below hb).lt; omega)
 have hok1:okR w2 (⟨(o.kind:Int),o.fr,o.too,⟨o.name.toArray⟩,o.parts.map fun p=>(p.1,(p.2:Int)),o.starts,o.fin,(o.pos:Int)⟩:RO) (.slice q1 n1 k1) (.slice q2 n2 k2):=by rw [hw2]; exact ⟨(zeg hP1).below (zaa (Below.refl _ w1) _),hN2.below (zaa (Below.refl _ w1) _)⟩
 have HOK:=hdq hok1
 have hoff:(∀ b off,q1 = some ⟨b,off,none⟩→b ≠ g5∧b ≠ (w.heap.size + 2))∧∀ b off,q2 = some ⟨b,off,none⟩→b ≠ g5∧b ≠ (w.heap.size + 2):=by
  have hz:=(HRZ0.out.below (Below.refl _ _)).lt
  have hz2:w0.heap.size = (w.heap.size + 2) + 1:=by rw [hw0]; simp
  refine ⟨fun b off e=>?_,fun b off e=>?_⟩
  ·subst e
   have:=hfr1 b rfl
   omega
  ·subst e
   have:=hfr2 b rfl
   omega
 have HOFF:=hdq hoff
 have f0:w2.cell? ⟨w.heap.size,0,none⟩ = some (.slice (some ⟨bc,oc,none⟩) c.length cc):=HRF1.out.cell 0
 have f1:w2.cell? ⟨w.heap.size,1,none⟩ = some (.slice (some ⟨bu,ou,none⟩) u.length cu):=HRF1.out.cell 1
 have f2:w2.cell? ⟨w.heap.size,2,none⟩ = some (.slice (some ⟨bk,ok,none⟩) kk.length ck):=HRF1.out.cell 2
 have f3:w2.cell? ⟨w.heap.size,3,none⟩ = some (.int .i32 en):=HRF1.out.cell 3
 have x1:w2.cell? ⟨(w.heap.size + 1),1,none⟩ = some (.int .u8 (x.a:Int)):=HRX1.out.cell 1
 have x2:w2.cell? ⟨(w.heap.size + 1),2,none⟩ = some (.int .u8 (x.b:Int)):=HRX1.out.cell 2
 have x6:w2.cell? ⟨(w.heap.size + 1),6,none⟩ = some (.slice pl x.long.length cl):=HRX1.out.cell 6
 have d0:w2.cell? ⟨g5,0,none⟩ = some (.int .i64 (o.kind:Int)):=R5.cell 0
 rw [hg5] at d0
 rw [hw2] at d0 f0 f1 f2 f3 x1 x2 x6
 have l1:((c.length:Int) == 0) = false:=beq_eq_false_iff_ne.2 (by have:=HLN.out; omega)
 have l2:((u.length:Int) == 0) = false:=beq_eq_false_iff_ne.2 (by have:=HLN.out; omega)
 have e5:((o.kind:Int) == 5) = true:=by rw [HKX.out,hxk]; rfl
 clear R5 hb hP1 hN2 hok1 hoff hfr1 hfr2
 go_wp2_with fail
 rw [← hg5]
 rw [← hw2]
 clear hg5 f0 f1 f2 f3 x1 x2 x6 d0 hw2 hw0 HRF0 HRX0 HRZ0 HB0
 obtain ⟨ra,hra⟩:∃ r,r = x.a % u.length:=⟨_,rfl⟩
 have hra2:ra < u.length:=by rw [hra]; exact Nat.mod_lt _ (by have:=HLN.out; omega)
 have mra:((x.a:Nat):Int).tmod (u.length:Int) = (ra:Int):=by rw [Int.tmod_eq_emod_of_nonneg (by omega),hra]; rfl
 have kra1:(0:Int)≤(ra:Int):=by omega
 have kra2:(ra:Int) < (u.length:Int):=by omega
 obtain ⟨rb,hrb⟩:∃ r,r = x.b % u.length:=⟨_,rfl⟩
 have hrb2:rb < u.length:=by rw [hrb]; exact Nat.mod_lt _ (by have:=HLN.out; omega)
 have mrb:((x.b:Nat):Int).tmod (u.length:Int) = (rb:Int):=by rw [Int.tmod_eq_emod_of_nonneg (by omega),hrb]; rfl
 have krb1:(0:Int)≤(rb:Int):=by omega
 have krb2:(rb:Int) < (u.length:Int):=by omega
 have qa:IntKind.i64.wrap (x.a:Int) = (x.a:Int):=by have:=HX.out.a; rw [IntKind.wrap_i64]; omega
 have qb:IntKind.i64.wrap (x.b:Int) = (x.b:Int):=by have:=HX.out.b; rw [IntKind.wrap_i64]; omega
 have q4:¬ u = []:=fun e=>by have:=HLN.out; rw [e] at this; simp at this
 obtain ⟨ua,hua⟩:∃ z:Nat,u.getD ra 0 = (z:Int):=⟨(u.getD ra 0).toNat,by rw [Int.toNat_of_nonneg (HUB.out _ (zay hra2)).1]⟩
 obtain ⟨ub,hub2⟩:∃ z:Nat,u.getD rb 0 = (z:Int):=⟨(u.getD rb 0).toNat,by rw [Int.toNat_of_nonneg (HUB.out _ (zay hrb2)).1]⟩
 have ca:=zae (HCU.out.2.1 ra hra2) HB1.out
 have cb:=zae (HCU.out.2.1 rb hrb2) HB1.out
 rw [hua] at ca
 rw [hub2] at cb
 have ub1:=(HUB.out _ (zay (d:=0) hra2)).2
 have ub2:=(HUB.out _ (zay (d:=0) hrb2)).2
 rw [hua] at ub1
 rw [hub2] at ub2
 have qua:IntKind.u32.wrap (ua:Int) = (ua:Int):=by rw [IntKind.wrap_u32]; omega
 have qub:IntKind.u32.wrap (ub:Int) = (ub:Int):=by rw [IntKind.wrap_u32]; omega
 have HBU:=hdq (show bu < w.heap.size from by
  have:=HCU.out.2.1 ra hra2
  obtain ⟨c',e',fr',hb',_⟩:=Sort.cells_of_cell? this
  exact (Array.getElem?_eq_some_iff.1 hb').1)
 have HCA:=hdq (And.intro ca cb)
 clear hra hra2 hrb hrb2 hua hub2 ca cb ub1 ub2
 refine zbe (n:=28) 27 20 (by kernel_rfl) (fun w1 w2=>w2 = w1∨w2 = w1.setCell ⟨g5,1,none⟩ (.int .u32 (ua:Int))) (fun w1=>Stored w2 g5 w1∧∃ z,Row w1 g5 (opQ o z (.int .u32 (o.too:Int)) (.slice q1 n1 k1) (.slice q2 n2 k2) o.fin) 47) (fun i w1 v=>if i = 25 then Row w1 g5 (opQ o (.int .u32 (ua:Int)) (.int .u32 (o.too:Int)) (.slice q1 n1 k1) (.slice q2 n2 k2) o.fin) 47 else v = (#[.pointer (some ⟨w.heap.size,1,none⟩),.slice (some ⟨bu,ou,none⟩) u.length cu,.pointer (some ⟨(w.heap.size + 1),1,none⟩),.int .u8 (x.a:Int),.int .i64 (x.a:Int),.pointer (some ⟨w.heap.size,1,none⟩),.slice (some ⟨bu,ou,none⟩) u.length cu,.int .i64 (u.length:Int),.int .i64 (ra:Int),.pointer (some ⟨bu,ou + ra,none⟩),.int .u16 (ua:Int),.int .u32 (ua:Int),.pointer (some ⟨w.heap.size,1,none⟩),.slice (some ⟨bu,ou,none⟩) u.length cu,.pointer (some ⟨(w.heap.size + 1),2,none⟩),.int .u8 (x.b:Int),.int .i64 (x.b:Int),.pointer (some ⟨w.heap.size,1,none⟩),.slice (some ⟨bu,ou,none⟩) u.length cu,.int .i64 (u.length:Int),.int .i64 (rb:Int),.pointer (some ⟨bu,ou + rb,none⟩),.int .u16 (ub:Int),.int .u32 (ub:Int),.pointer (some ⟨g5,1,none⟩),undef,.pointer (some ⟨g5,2,none⟩)]:Array Value).getD i undef)
  (fun cz v w1=>Stored w2 g5 w1∧Row w1 g5 (opQ o (.int .u32 (ua:Int)) (.int .u32 (ub:Int)) (.slice q1 n1 k1) (.slice q2 n2 k2) o.fin) 47) (by kernel_rfl) (by kernel_rfl) (by kernel_rfl) ⟨zbh (Stored.refl _ _),_,HR5.out⟩ rfl (fun w1 w2 ⟨a,z,b⟩ e=>by
   rcases e with rfl | rfl
   ·exact ⟨a,z,b⟩
   ·exact ⟨a.trans (zaf _ _ _ _),_,b.set 1 _⟩) (fun i w1 w2 v e h=>by
   by_cases c:i = 25
   ·rw [if_pos c] at h ⊢
    rcases e with rfl | rfl
    ·exact h
    ·exact h.set 1 _
   ·rw [if_neg c] at h ⊢; exact h) ?_
 intro F Fz hF hFz
 simp only [fill,updV,dstAt] at hF hFz
 simp [Act.put] at hF hFz
 obtain rfl:F = fun cz=>_:=funext fun cz=>(hF cz).symm
 obtain rfl:Fz = fun cz v=>_:=funext fun cz=>funext fun v=>(hFz cz v).symm
 clear hF hFz
 refine ⟨?_,?_,?_⟩
 ·rintro i op ho nez cz wx ⟨S,z,RGv⟩ hG
  have RFx:=HRF1.out.stored S (by have:=HG5.out; omega)
  have RXx:=HRX1.out.stored S (by have:=HG5.out; omega)
  have f1:wx.cell? ⟨w.heap.size,1,none⟩ = some (.slice (some ⟨bu,ou,none⟩) u.length cu):=RFx.cell 1
  have x1:wx.cell? ⟨(w.heap.size + 1),1,none⟩ = some (.int .u8 (x.a:Int)):=RXx.cell 1
  have x2:wx.cell? ⟨(w.heap.size + 1),2,none⟩ = some (.int .u8 (x.b:Int)):=RXx.cell 2
  have ea:wx.cell? ⟨bu,ou + ra,none⟩ = some (.int .u16 (ua:Int)):=zbk HCA.out.1 S (by have:=HBU.out; have:=HG5.out; omega)
  have eb:wx.cell? ⟨bu,ou + rb,none⟩ = some (.int .u16 (ub:Int)):=zbk HCA.out.2 S (by have:=HBU.out; have:=HG5.out; omega)
  have v1:wx.cell? ⟨g5,1,none⟩ = some z:=RGv.cell 1
  have fz:wx.frozen? ⟨g5,1,none⟩ = false:=RGv.frozen 1
  rcases i with _ | _ | _ | _ | _ | _ | _ | _ | _ | _ | _ | _ | _ | _ | _ | _ | _ | _ | _ | _ | _ | _ | _ | _ | _ | _ | _ | _ | i
  all_goals (first | (exact absurd rfl nez) | (simp at ho; done) | (obtain rfl:=Option.some.inj ho))
  ·exact zac (.pointer (some ⟨w.heap.size,1,none⟩)) rfl (by go_simp) ⟨.inl rfl,rfl⟩
  ·have g0:cz 0 = .pointer (some ⟨w.heap.size,1,none⟩):=hG 0 rfl (by omega)
   exact zac (.slice (some ⟨bu,ou,none⟩) u.length cu) rfl (by simp only [g0]; go_simp) ⟨.inl rfl,rfl⟩
  ·exact zac (.pointer (some ⟨(w.heap.size + 1),1,none⟩)) rfl (by go_simp) ⟨.inl rfl,rfl⟩
  ·have g2:cz 2 = .pointer (some ⟨(w.heap.size + 1),1,none⟩):=hG 2 rfl (by omega)
   exact zac (.int .u8 (x.a:Int)) rfl (by simp only [g2]; go_simp) ⟨.inl rfl,rfl⟩
  ·have g3:cz 3 = .int .u8 (x.a:Int):=hG 3 rfl (by omega)
   exact zac (.int .i64 (x.a:Int)) rfl (by simp only [g3]; go_simp) ⟨.inl rfl,rfl⟩
  ·exact zac (.pointer (some ⟨w.heap.size,1,none⟩)) rfl (by go_simp) ⟨.inl rfl,rfl⟩
  ·have g5:cz 5 = .pointer (some ⟨w.heap.size,1,none⟩):=hG 5 rfl (by omega)
   exact zac (.slice (some ⟨bu,ou,none⟩) u.length cu) rfl (by simp only [g5]; go_simp) ⟨.inl rfl,rfl⟩
  ·have g6:cz 6 = .slice (some ⟨bu,ou,none⟩) u.length cu:=hG 6 rfl (by omega)
   exact zac (.int .i64 (u.length:Int)) rfl (by simp only [g6]; go_simp) ⟨.inl rfl,rfl⟩
  ·have g4:cz 4 = .int .i64 (x.a:Int):=hG 4 rfl (by omega)
   have g7:cz 7 = .int .i64 (u.length:Int):=hG 7 rfl (by omega)
   exact zac (.int .i64 (ra:Int)) rfl (by simp only [g4,g7]; go_simp) ⟨.inl rfl,rfl⟩
  ·have g1:cz 1 = .slice (some ⟨bu,ou,none⟩) u.length cu:=hG 1 rfl (by omega)
   have g8:cz 8 = .int .i64 (ra:Int):=hG 8 rfl (by omega)
   exact zac (.pointer (some ⟨bu,ou + ra,none⟩)) rfl (by simp only [g1,g8]; go_simp) ⟨.inl rfl,rfl⟩
  ·have g9:cz 9 = .pointer (some ⟨bu,ou + ra,none⟩):=hG 9 rfl (by omega)
   exact zac (.int .u16 (ua:Int)) rfl (by simp only [g9]; go_simp) ⟨.inl rfl,rfl⟩
  ·have g10:cz 10 = .int .u16 (ua:Int):=hG 10 rfl (by omega)
   exact zac (.int .u32 (ua:Int)) rfl (by simp only [g10]; go_simp) ⟨.inl rfl,rfl⟩
  ·exact zac (.pointer (some ⟨w.heap.size,1,none⟩)) rfl (by go_simp) ⟨.inl rfl,rfl⟩
  ·have g12:cz 12 = .pointer (some ⟨w.heap.size,1,none⟩):=hG 12 rfl (by omega)
   exact zac (.slice (some ⟨bu,ou,none⟩) u.length cu) rfl (by simp only [g12]; go_simp) ⟨.inl rfl,rfl⟩
  ·exact zac (.pointer (some ⟨(w.heap.size + 1),2,none⟩)) rfl (by go_simp) ⟨.inl rfl,rfl⟩
  ·have g14:cz 14 = .pointer (some ⟨(w.heap.size + 1),2,none⟩):=hG 14 rfl (by omega)
   exact zac (.int .u8 (x.b:Int)) rfl (by simp only [g14]; go_simp) ⟨.inl rfl,rfl⟩
  ·have g15:cz 15 = .int .u8 (x.b:Int):=hG 15 rfl (by omega)
   exact zac (.int .i64 (x.b:Int)) rfl (by simp only [g15]; go_simp) ⟨.inl rfl,rfl⟩
  ·exact zac (.pointer (some ⟨w.heap.size,1,none⟩)) rfl (by go_simp) ⟨.inl rfl,rfl⟩
  ·have g17:cz 17 = .pointer (some ⟨w.heap.size,1,none⟩):=hG 17 rfl (by omega)
   exact zac (.slice (some ⟨bu,ou,none⟩) u.length cu) rfl (by simp only [g17]; go_simp) ⟨.inl rfl,rfl⟩
  ·have g18:cz 18 = .slice (some ⟨bu,ou,none⟩) u.length cu:=hG 18 rfl (by omega)
   exact zac (.int .i64 (u.length:Int)) rfl (by simp only [g18]; go_simp) ⟨.inl rfl,rfl⟩
  ·have g16:cz 16 = .int .i64 (x.b:Int):=hG 16 rfl (by omega)
   have g19:cz 19 = .int .i64 (u.length:Int):=hG 19 rfl (by omega)
   exact zac (.int .i64 (rb:Int)) rfl (by simp only [g16,g19]; go_simp) ⟨.inl rfl,rfl⟩
  ·have g13:cz 13 = .slice (some ⟨bu,ou,none⟩) u.length cu:=hG 13 rfl (by omega)
   have g20:cz 20 = .int .i64 (rb:Int):=hG 20 rfl (by omega)
   exact zac (.pointer (some ⟨bu,ou + rb,none⟩)) rfl (by simp only [g13,g20]; go_simp) ⟨.inl rfl,rfl⟩
  ·have g21:cz 21 = .pointer (some ⟨bu,ou + rb,none⟩):=hG 21 rfl (by omega)
   exact zac (.int .u16 (ub:Int)) rfl (by simp only [g21]; go_simp) ⟨.inl rfl,rfl⟩
  ·have g22:cz 22 = .int .u16 (ub:Int):=hG 22 rfl (by omega)
   exact zac (.int .u32 (ub:Int)) rfl (by simp only [g22]; go_simp) ⟨.inl rfl,rfl⟩
  ·exact zac (.pointer (some ⟨g5,1,none⟩)) rfl (by go_simp) ⟨.inl rfl,rfl⟩
  ·have g24:cz 24 = .pointer (some ⟨g5,1,none⟩):=hG 24 rfl (by omega)
   have g11:cz 11 = .int .u32 (ua:Int):=hG 11 rfl (by omega)
   exact zbu (wx.setCell ⟨g5,1,none⟩ (.int .u32 (ua:Int))) rfl (by simp only [g24,g11]; go_simp) ⟨.inr rfl,RGv.set 1 (.int .u32 (ua:Int))⟩
  ·exact zac (.pointer (some ⟨g5,2,none⟩)) rfl (by go_simp) ⟨.inl rfl,rfl⟩
 ·rintro op ho cz wx ⟨S,z,RGv⟩ hG
  obtain rfl:=Option.some.inj ho
  have g26:cz 26 = .pointer (some ⟨g5,2,none⟩):=hG 26 (by omega) (by omega)
  have g23:cz 23 = .int .u32 (ub:Int):=hG 23 (by omega) (by omega)
  have R5x:Row wx g5 (opQ o (.int .u32 (ua:Int)) (.int .u32 (o.too:Int)) (.slice q1 n1 k1) (.slice q2 n2 k2) o.fin) 47:=hG 25 (by omega) (by omega)
  have v2:wx.cell? ⟨g5,2,none⟩ = some (.int .u32 (o.too:Int)):=R5x.cell 2
  have fz:wx.frozen? ⟨g5,2,none⟩ = false:=R5x.frozen 2
  exact zbu (wx.setCell ⟨g5,2,none⟩ (.int .u32 (ub:Int))) rfl (by simp only [g26,g23]; go_simp) ⟨S.trans (zaf _ _ _ _),R5x.set 2 (.int .u32 (ub:Int))⟩
 ·rintro cz v w3 ⟨S3,R3⟩
  have HS3:=hdq S3
  have HR3:=hdq R3
  have HRZ3:=hdq (HRZ1.out.stored S3 (by have:=HG5.out; omega))
  have HRX3:=hdq (HRX1.out.stored S3 (by have:=HG5.out; omega))
  have HB3:=hdq (S3.below HB1.out (by have:=HG5.out; omega))
  clear S3 R3 qa qb q4 HCA
  have d0:w3.cell? ⟨g5,0,none⟩ = some (.int .i64 (o.kind:Int)):=HR3.out.cell 0
  have x2:w3.cell? ⟨(w.heap.size + 1),2,none⟩ = some (.int .u8 (x.b:Int)):=HRX3.out.cell 2
  have wq1:IntKind.u32.wrap (x.b:Int) = (x.b:Int):=by have:=HX.out.b; rw [IntKind.wrap_u32]; omega
  have wq2:IntKind.u32.wrap (20 + (x.b:Int)) = ((20 + x.b:Nat):Int):=by have:=HX.out.b; rw [IntKind.wrap_u32]; omega
  have S4:=zag g5 [.int .u32 ((20 + x.b:Nat):Int)] 2 w3
  have R4:Row (w3.setCells g5 2 [.int .u32 ((20 + x.b:Nat):Int)]) g5 (opQ o (.int .u32 (ua:Int)) (.int .u32 ((20 + x.b:Nat):Int)) (.slice q1 n1 k1) (.slice q2 n2 k2) o.fin) 47:=Row.setCells [.int .u32 ((20 + x.b:Nat):Int)] 2 HR3.out
  have HR4:=hdq R4
  have HRZ4:=hdq (HRZ3.out.stored S4 (by have:=HG5.out; omega))
  have HB4:=hdq (S4.below HB3.out (by have:=HG5.out; omega))
  have HS4:=hdq (HS3.out.trans S4)
  clear S4 R4
  have HOK2:Hid (okR (w3.setCells g5 2 [.int .u32 ((20 + x.b:Nat):Int)]) (⟨(o.kind:Int),ua,(20 + x.b),⟨o.name.toArray⟩,o.parts.map fun p=>(p.1,(p.2:Int)),o.starts,o.fin,(o.pos:Int)⟩:RO) (.slice q1 n1 k1) (.slice q2 n2 k2)):=hdq (zap HOK.out (fun b off e=>(HOFF.out.1 b off e).1) (fun b off e=>(HOFF.out.2 b off e).1) rfl rfl HS4.out)
  go_wp2_with (first | (refine zam rfl 44 _ _ rfl g5 2 (.int .u32 ((20 + x.b:Nat):Int)) rfl rfl rfl HR3.out (by kernel_rfl) (by show 2 < 8; omega) rfl rfl ?_) | (refine zaq (N:=65) rfl rfl 47 _ rfl g5 rfl HR4.out _ Tryz.underlying47 rfl (by kernel_rfl) ?_) | (refine zad rfl 47 _ _ rfl (w.heap.size + 2) (opQ o (.int .u32 (ua:Int)) (.int .u32 ((20 + x.b:Nat):Int)) (.slice q1 n1 k1) (.slice q2 n2 k2) o.fin) rfl rfl HRZ4.out (by kernel_rfl) rfl (by simp [opQ,Value.oneCell']) rfl ?_; intro wz RZ SZ))
  have BZ:=SZ.below HB4.out (show w.heap.size≤(w.heap.size + 2) by omega)
  refine bodyPost_ret (v:=.agg (opQ o (.int .u32 (ua:Int)) (.int .u32 ((20 + x.b:Nat):Int)) (.slice q1 n1 k1) (.slice q2 n2 k2) o.fin)) (zau rfl _ _ RZ rfl Tryz.underlying47 rfl (by kernel_rfl)) rfl ⟨(⟨(o.kind:Int),ua,(20 + x.b),⟨o.name.toArray⟩,o.parts.map fun p=>(p.1,(p.2:Int)),o.starts,o.fin,(o.pos:Int)⟩:RO),_,_,rfl,?_,by show (0:Int)≤(o.kind:Int); omega,by show (o.kind:Int) < 8; have:=HCAN.out.kind; omega,by have:=HCAN.out.name; simpa [ByteArray.size] using Nat.le_trans this (by omega),by show (o.parts.map _).length≤1000; rw [List.length_map]; have:=HCAN.out.parts.2.1; omega,BZ⟩
  exact zap HOK2.out (fun b off e=>(HOFF.out.1 b off e).2) (fun b off e=>(HOFF.out.2 b off e).2) rfl rfl SZ
set_option maxHeartbeats 16000000 in
set_option maxRecDepth 100000 in
theorem near_6 (c:List Ac) (u kk:List Int) (cv uv kv:Value) (en:Int) (x:Sc.O) (vp vl:Value) (w:World) (hc:CsAt w cv c) (hu:NsAt .u16 w uv u) (hk:NsAt .i32 w kv kk) (hc0:0 < c.length) (hc1:c.length≤1000) (hu0:0 < u.length) (hu1:u.length≤1000) (hub:∀ z ∈ u,0≤z∧z≤65535) (hk0:0 < kk.length) (hk1:kk.length≤1000) (hx:x.ok) (hP:PosAt w vp x.parts) (hL:NsAt .u8 w vl x.long) (hxk:x.kind % 8 = 6) :
  Calls Tryz.prog 11 #[.agg #[cv,uv,kv,.int .i32 en],.agg (ov x vp vl).toArray] w (NearOk w):=by
 obtain ⟨pc,cc,rfl,hEc⟩:=hc
 obtain ⟨pu,cu,rfl,hEu⟩:=hu
 obtain ⟨pk,ck,rfl,hEk⟩:=hk
 obtain ⟨bc,oc,rfl,hcc⟩:∃ b o,pc = some ⟨b,o,none⟩∧∀ i,i < c.length→w.rangeAt b (o + i * 4) (ac (c.getD i ac0)):=by
  rcases hEc with h | h
  ·rw [h] at hc0; simp at hc0
  ·exact h
 obtain ⟨bu,ou,rfl,huu⟩:∃ b o,pu = some ⟨b,o,none⟩∧∀ i,i < u.length→w.cell? ⟨b,o + i,none⟩ = some (.int .u16 (u.getD i 0)):=by
  rcases hEu with h | h
  ·rw [h] at hu0; simp at hu0
  ·exact h
 obtain ⟨bk,ok,rfl,hkk⟩:∃ b o,pk = some ⟨b,o,none⟩∧∀ i,i < kk.length→w.cell? ⟨b,o + i,none⟩ = some (.int .i32 (kk.getD i 0)):=by
  rcases hEk with h | h
  ·rw [h] at hk0; simp at hk0
  ·exact h
 have HRAW:=hdq fun W (hb:Below w.heap.size w W)=>zdx x hx vp vl W (hP.below hb) (hL.below hb)
 obtain ⟨pp,cp,rfl,_⟩:=id hP
 obtain ⟨pl,cl,rfl,_⟩:=id hL
 obtain ⟨np,hnp⟩:∃ n,n = x.parts.length:=⟨_,rfl⟩
 have HCU:=hdq (And.intro hcc (And.intro huu hkk))
 have HLN:=hdq (And.intro hc0 (And.intro hc1 (And.intro hu0 (And.intro hu1 (And.intro hk0 hk1)))))
 have HUB:=hdq hub
 have HX:=hdq hx
 have HLL:=hdq hL
 have HCAN:=hdq (Sc.raw_can x hx)
 have hkx:(Sc.raw x).kind = x.kind % 8:=zci x
 obtain ⟨o,ho⟩:∃ o,o = Sc.raw x:=⟨_,rfl⟩
 rw [← ho] at HCAN hkx HRAW
 have HKX:=hdq hkx
 unfold ov at *
 rw [← hnp] at HRAW ⊢
 have HOO:=hdq ho
 obtain ⟨w0,hw0⟩:∃ w0,w0 = ((w.alloc (.cells #[.slice (some ⟨bc,oc,none⟩) c.length cc,.slice (some ⟨bu,ou,none⟩) u.length cu,.slice (some ⟨bk,ok,none⟩) kk.length ck,.int .i32 en] 41)).alloc (.cells #[.int .u8 (x.kind:Int),.int .u8 (x.a:Int),.int .u8 (x.b:Int),.int .u8 (x.nm:Int),.slice pp np cp,.int .i16 x.first,.slice pl x.long.length cl] 31)).alloc (.cells #[.int .i64 0,.int .u32 0,.int .u32 0,.string ⟨#[]⟩,.slice none 0 0,.slice none 0 0,.int .i32 0,.int .i64 0] 47):=⟨_,rfl⟩
 have hsz0:w0.heap.size = w.heap.size + 3:=by rw [hw0]; simp
 have B0:Below w.heap.size w w0:=by rw [hw0]; exact zaa (zaa (zaa (Below.refl _ w) _) _) _
 have RF:Row w0 w.heap.size #[.slice (some ⟨bc,oc,none⟩) c.length cc,.slice (some ⟨bu,ou,none⟩) u.length cu,.slice (some ⟨bk,ok,none⟩) kk.length ck,.int .i32 en] 41:=by rw [hw0]; exact ((Row.new w _ _).alloc _).alloc _
 have RX:Row w0 (w.heap.size + 1) #[.int .u8 (x.kind:Int),.int .u8 (x.a:Int),.int .u8 (x.b:Int),.int .u8 (x.nm:Int),.slice pp np cp,.int .i16 x.first,.slice pl x.long.length cl] 31:=by rw [hw0]; exact (Row.new' _ _ _ (by simp)).alloc _
 have RZ:Row w0 (w.heap.size + 2) #[.int .i64 0,.int .u32 0,.int .u32 0,.string ⟨#[]⟩,.slice none 0 0,.slice none 0 0,.int .i32 0,.int .i64 0] 47:=by rw [hw0]; exact Row.new' _ _ _ (by simp)
 have HB0:=hdq B0
 have HRF0:=hdq RF
 have HRX0:=hdq RX
 have HRZ0:=hdq RZ
 clear hEc hEu hEk hcc huu hkk hc0 hc1 hu0 hu1 hub hk0 hk1 hx hP hL B0 RF RX RZ ho hnp hkx
 go_enter Tryz.func11,Tryz.ntmps11
 have y0:w0.cell? ⟨(w.heap.size + 1),0,none⟩ = some (.int .u8 (x.kind:Int)):=HRX0.out.cell 0
 have y1:w0.cell? ⟨(w.heap.size + 1),1,none⟩ = some (.int .u8 (x.a:Int)):=HRX0.out.cell 1
 have y2:w0.cell? ⟨(w.heap.size + 1),2,none⟩ = some (.int .u8 (x.b:Int)):=HRX0.out.cell 2
 have y3:w0.cell? ⟨(w.heap.size + 1),3,none⟩ = some (.int .u8 (x.nm:Int)):=HRX0.out.cell 3
 have y4:w0.cell? ⟨(w.heap.size + 1),4,none⟩ = some (.slice pp np cp):=HRX0.out.cell 4
 have y5:w0.cell? ⟨(w.heap.size + 1),5,none⟩ = some (.int .i16 x.first):=HRX0.out.cell 5
 have y6:w0.cell? ⟨(w.heap.size + 1),6,none⟩ = some (.slice pl x.long.length cl):=HRX0.out.cell 6
 rw [hw0] at y0 y1 y2 y3 y4 y5 y6
 go_wp2_with fail
 rw [← hw0]
 refine (HRAW.out _ HB0.out).mono ?_
 clear y0 y1 y2 y3 y4 y5 y6
 rintro _ w1 ⟨v1,v2,rfl,hP1,hN2,hfr1,hfr2,hb⟩
 obtain ⟨q1,k1,rfl,hx1⟩:=id hP1
 obtain ⟨q2,k2,rfl,hx2⟩:=id hN2
 obtain ⟨n1,hn1⟩:∃ n,n = o.parts.length:=⟨_,rfl⟩
 obtain ⟨n2,hn2⟩:∃ n,n = o.starts.length:=⟨_,rfl⟩
 rw [← hn1] at hP1 hfr1 ⊢
 rw [← hn2] at hN2 hfr2 ⊢
 have HN12:=hdq (And.intro hn1 hn2)
 unfold opc
 clear hx1 hx2 hn1 hn2
 replace hfr1:∀ g,(Value.slice q1 n1 k1).ownBlock = some g→w.heap.size + 3≤g∧g < w1.heap.size:=fun g e=>by have:=hfr1 g e; omega
 replace hfr2:∀ g,(Value.slice q2 n2 k2).ownBlock = some g→w.heap.size + 3≤g∧g < w1.heap.size:=fun g e=>by have:=hfr2 g e; omega
 obtain ⟨g5,hg5⟩:∃ g,g = w1.heap.size:=⟨_,rfl⟩
 obtain ⟨w2,hw2⟩:∃ w2,w2 = w1.alloc (.cells #[.int .i64 (o.kind:Int),.int .u32 (o.fr:Int),.int .u32 (o.too:Int),.string ⟨o.name.toArray⟩,.slice q1 n1 k1,.slice q2 n2 k2,.int .i32 o.fin,.int .i64 (o.pos:Int)] 47):=⟨_,rfl⟩
 have R5:Row w2 g5 (opQ o (.int .u32 (o.fr:Int)) (.int .u32 (o.too:Int)) (.slice q1 n1 k1) (.slice q2 n2 k2) o.fin) 47:=by rw [hg5,hw2]; exact Row.new w1 _ _
 have HR5:=hdq R5
 have HRF1:=hdq (show Row w2 w.heap.size #[.slice (some ⟨bc,oc,none⟩) c.length cc,.slice (some ⟨bu,ou,none⟩) u.length cu,.slice (some ⟨bk,ok,none⟩) kk.length ck,.int .i32 en] 41 by rw [hw2]; exact (HRF0.out.below hb).alloc _)
 have HRX1:=hdq (show Row w2 (w.heap.size + 1) #[.int .u8 (x.kind:Int),.int .u8 (x.a:Int),.int .u8 (x.b:Int),.int .u8 (x.nm:Int),.slice pp np cp,.int .i16 x.first,.slice pl x.long.length cl] 31 by rw [hw2]; exact (HRX0.out.below hb).alloc _)
 have HRZ1:=hdq (show Row w2 (w.heap.size + 2) #[.int .i64 0,.int .u32 0,.int .u32 0,.string ⟨#[]⟩,.slice none 0 0,.slice none 0 0,.int .i32 0,.int .i64 0] 47 by rw [hw2]; exact (HRZ0.out.below hb).alloc _)
 have HB1:=hdq (show Below w.heap.size w w2 by rw [hw2]; exact zaa (zab HB0.out hb) _)
 have HG5:=hdq (show (w.heap.size + 2) < g5 by have:=(HRZ0.out.below hb).lt; omega)
 have hok1:okR w2 (⟨(o.kind:Int),o.fr,o.too,⟨o.name.toArray⟩,o.parts.map fun p=>(p.1,(p.2:Int)),o.starts,o.fin,(o.pos:Int)⟩:RO) (.slice q1 n1 k1) (.slice q2 n2 k2):=by rw [hw2]; exact ⟨(zeg hP1).below (zaa (Below.refl _ w1) _),hN2.below (zaa (Below.refl _ w1) _)⟩
 have HOK:=hdq hok1
 have hoff:(∀ b off,q1 = some ⟨b,off,none⟩→b ≠ g5∧b ≠ (w.heap.size + 2))∧∀ b off,q2 = some ⟨b,off,none⟩→b ≠ g5∧b ≠ (w.heap.size + 2):=by
  have hz:=(HRZ0.out.below (Below.refl _ _)).lt
  have hz2:w0.heap.size = (w.heap.size + 2) + 1:=by rw [hw0]; simp
  refine ⟨fun b off e=>?_,fun b off e=>?_⟩
  ·subst e
   have:=hfr1 b rfl
   omega
  ·subst e
   have:=hfr2 b rfl
   omega
 have HOFF:=hdq hoff
 have f0:w2.cell? ⟨w.heap.size,0,none⟩ = some (.slice (some ⟨bc,oc,none⟩) c.length cc):=HRF1.out.cell 0
 have f1:w2.cell? ⟨w.heap.size,1,none⟩ = some (.slice (some ⟨bu,ou,none⟩) u.length cu):=HRF1.out.cell 1
 have f2:w2.cell? ⟨w.heap.size,2,none⟩ = some (.slice (some ⟨bk,ok,none⟩) kk.length ck):=HRF1.out.cell 2
 have f3:w2.cell? ⟨w.heap.size,3,none⟩ = some (.int .i32 en):=HRF1.out.cell 3
 have x1:w2.cell? ⟨(w.heap.size + 1),1,none⟩ = some (.int .u8 (x.a:Int)):=HRX1.out.cell 1
 have x2:w2.cell? ⟨(w.heap.size + 1),2,none⟩ = some (.int .u8 (x.b:Int)):=HRX1.out.cell 2
 have x6:w2.cell? ⟨(w.heap.size + 1),6,none⟩ = some (.slice pl x.long.length cl):=HRX1.out.cell 6
 have d0:w2.cell? ⟨g5,0,none⟩ = some (.int .i64 (o.kind:Int)):=R5.cell 0
 rw [hg5] at d0
 rw [hw2] at d0 f0 f1 f2 f3 x1 x2 x6
 have l1:((c.length:Int) == 0) = false:=beq_eq_false_iff_ne.2 (by have:=HLN.out; omega)
 have l2:((u.length:Int) == 0) = false:=beq_eq_false_iff_ne.2 (by have:=HLN.out; omega)
 have e6:((o.kind:Int) == 6) = true:=by rw [HKX.out,hxk]; rfl
 have e5:((o.kind:Int) == 5) = false:=beq_eq_false_iff_ne.2 (by rw [HKX.out]; omega)
 clear R5 hb hP1 hN2 hok1 hoff hfr1 hfr2
 go_wp2_with fail
 rw [← hg5]
 rw [← hw2]
 clear hg5 f0 f1 f2 f3 x1 x2 x6 d0 hw2 hw0 HRF0 HRX0 HRZ0 HB0
 obtain ⟨ra,hra⟩:∃ r,r = x.a % u.length:=⟨_,rfl⟩
 have hra2:ra < u.length:=by rw [hra]; exact Nat.mod_lt _ (by have:=HLN.out; omega)
 have mra:((x.a:Nat):Int).tmod (u.length:Int) = (ra:Int):=by rw [Int.tmod_eq_emod_of_nonneg (by omega),hra]; rfl
 have kra1:(0:Int)≤(ra:Int):=by omega
 have kra2:(ra:Int) < (u.length:Int):=by omega
 obtain ⟨rb,hrb⟩:∃ r,r = x.b % u.length:=⟨_,rfl⟩
 have hrb2:rb < u.length:=by rw [hrb]; exact Nat.mod_lt _ (by have:=HLN.out; omega)
 have mrb:((x.b:Nat):Int).tmod (u.length:Int) = (rb:Int):=by rw [Int.tmod_eq_emod_of_nonneg (by omega),hrb]; rfl
 have krb1:(0:Int)≤(rb:Int):=by omega
 have krb2:(rb:Int) < (u.length:Int):=by omega
 have qa:IntKind.i64.wrap (x.a:Int) = (x.a:Int):=by have:=HX.out.a; rw [IntKind.wrap_i64]; omega
 have qb:IntKind.i64.wrap (x.b:Int) = (x.b:Int):=by have:=HX.out.b; rw [IntKind.wrap_i64]; omega
 have q4:¬ u = []:=fun e=>by have:=HLN.out; rw [e] at this; simp at this
 obtain ⟨ua,hua⟩:∃ z:Nat,u.getD ra 0 = (z:Int):=⟨(u.getD ra 0).toNat,by rw [Int.toNat_of_nonneg (HUB.out _ (zay hra2)).1]⟩
 obtain ⟨ub,hub2⟩:∃ z:Nat,u.getD rb 0 = (z:Int):=⟨(u.getD rb 0).toNat,by rw [Int.toNat_of_nonneg (HUB.out _ (zay hrb2)).1]⟩
 have ca:=zae (HCU.out.2.1 ra hra2) HB1.out
 have cb:=zae (HCU.out.2.1 rb hrb2) HB1.out
 rw [hua] at ca
 rw [hub2] at cb
 have ub1:=(HUB.out _ (zay (d:=0) hra2)).2
 have ub2:=(HUB.out _ (zay (d:=0) hrb2)).2
 rw [hua] at ub1
 rw [hub2] at ub2
 have qua:IntKind.u32.wrap (ua:Int) = (ua:Int):=by rw [IntKind.wrap_u32]; omega
 have qub:IntKind.u32.wrap (ub:Int) = (ub:Int):=by rw [IntKind.wrap_u32]; omega
 have HBU:=hdq (show bu < w.heap.size from by
  have:=HCU.out.2.1 ra hra2
  obtain ⟨c',e',fr',hb',_⟩:=Sort.cells_of_cell? this
  exact (Array.getElem?_eq_some_iff.1 hb').1)
 have HCA:=hdq (And.intro ca cb)
 clear hra hra2 hrb hrb2 hua hub2 ca cb ub1 ub2
 refine zbe (n:=28) 27 20 (by kernel_rfl) (fun w1 w2=>w2 = w1∨w2 = w1.setCell ⟨g5,1,none⟩ (.int .u32 (ua:Int))) (fun w1=>Stored w2 g5 w1∧∃ z,Row w1 g5 (opQ o z (.int .u32 (o.too:Int)) (.slice q1 n1 k1) (.slice q2 n2 k2) o.fin) 47) (fun i w1 v=>if i = 25 then Row w1 g5 (opQ o (.int .u32 (ua:Int)) (.int .u32 (o.too:Int)) (.slice q1 n1 k1) (.slice q2 n2 k2) o.fin) 47 else v = (#[.pointer (some ⟨w.heap.size,1,none⟩),.slice (some ⟨bu,ou,none⟩) u.length cu,.pointer (some ⟨(w.heap.size + 1),1,none⟩),.int .u8 (x.a:Int),.int .i64 (x.a:Int),.pointer (some ⟨w.heap.size,1,none⟩),.slice (some ⟨bu,ou,none⟩) u.length cu,.int .i64 (u.length:Int),.int .i64 (ra:Int),.pointer (some ⟨bu,ou + ra,none⟩),.int .u16 (ua:Int),.int .u32 (ua:Int),.pointer (some ⟨w.heap.size,1,none⟩),.slice (some ⟨bu,ou,none⟩) u.length cu,.pointer (some ⟨(w.heap.size + 1),2,none⟩),.int .u8 (x.b:Int),.int .i64 (x.b:Int),.pointer (some ⟨w.heap.size,1,none⟩),.slice (some ⟨bu,ou,none⟩) u.length cu,.int .i64 (u.length:Int),.int .i64 (rb:Int),.pointer (some ⟨bu,ou + rb,none⟩),.int .u16 (ub:Int),.int .u32 (ub:Int),.pointer (some ⟨g5,1,none⟩),undef,.pointer (some ⟨g5,2,none⟩)]:Array Value).getD i undef)
  (fun cz v w1=>Stored w2 g5 w1∧Row w1 g5 (opQ o (.int .u32 (ua:Int)) (.int .u32 (ub:Int)) (.slice q1 n1 k1) (.slice q2 n2 k2) o.fin) 47) (by kernel_rfl) (by kernel_rfl) (by kernel_rfl) ⟨zbh (Stored.refl _ _),_,HR5.out⟩ rfl (fun w1 w2 ⟨a,z,b⟩ e=>by
   rcases e with rfl | rfl
   ·exact ⟨a,z,b⟩
   ·exact ⟨a.trans (zaf _ _ _ _),_,b.set 1 _⟩) (fun i w1 w2 v e h=>by
   by_cases c:i = 25
   ·rw [if_pos c] at h ⊢
    rcases e with rfl | rfl
    ·exact h
    ·exact h.set 1 _
   ·rw [if_neg c] at h ⊢; exact h) ?_
 intro F Fz hF hFz
 simp only [fill,updV,dstAt] at hF hFz
 simp [Act.put] at hF hFz
 obtain rfl:F = fun cz=>_:=funext fun cz=>(hF cz).symm
 obtain rfl:Fz = fun cz v=>_:=funext fun cz=>funext fun v=>(hFz cz v).symm
 clear hF hFz
 refine ⟨?_,?_,?_⟩
 ·rintro i op ho nez cz wx ⟨S,z,RGv⟩ hG
  have RFx:=HRF1.out.stored S (by have:=HG5.out; omega)
  have RXx:=HRX1.out.stored S (by have:=HG5.out; omega)
  have f1:wx.cell? ⟨w.heap.size,1,none⟩ = some (.slice (some ⟨bu,ou,none⟩) u.length cu):=RFx.cell 1
  have x1:wx.cell? ⟨(w.heap.size + 1),1,none⟩ = some (.int .u8 (x.a:Int)):=RXx.cell 1
  have x2:wx.cell? ⟨(w.heap.size + 1),2,none⟩ = some (.int .u8 (x.b:Int)):=RXx.cell 2
  have ea:wx.cell? ⟨bu,ou + ra,none⟩ = some (.int .u16 (ua:Int)):=zbk HCA.out.1 S (by have:=HBU.out; have:=HG5.out; omega)
  have eb:wx.cell? ⟨bu,ou + rb,none⟩ = some (.int .u16 (ub:Int)):=zbk HCA.out.2 S (by have:=HBU.out; have:=HG5.out; omega)
  have v1:wx.cell? ⟨g5,1,none⟩ = some z:=RGv.cell 1
  have fz:wx.frozen? ⟨g5,1,none⟩ = false:=RGv.frozen 1
  rcases i with _ | _ | _ | _ | _ | _ | _ | _ | _ | _ | _ | _ | _ | _ | _ | _ | _ | _ | _ | _ | _ | _ | _ | _ | _ | _ | _ | _ | i
  all_goals (first | (exact absurd rfl nez) | (simp at ho; done) | (obtain rfl:=Option.some.inj ho))
  ·exact zac (.pointer (some ⟨w.heap.size,1,none⟩)) rfl (by go_simp) ⟨.inl rfl,rfl⟩
  ·have g0:cz 0 = .pointer (some ⟨w.heap.size,1,none⟩):=hG 0 rfl (by omega)
   exact zac (.slice (some ⟨bu,ou,none⟩) u.length cu) rfl (by simp only [g0]; go_simp) ⟨.inl rfl,rfl⟩
  ·exact zac (.pointer (some ⟨(w.heap.size + 1),1,none⟩)) rfl (by go_simp) ⟨.inl rfl,rfl⟩
  ·have g2:cz 2 = .pointer (some ⟨(w.heap.size + 1),1,none⟩):=hG 2 rfl (by omega)
   exact zac (.int .u8 (x.a:Int)) rfl (by simp only [g2]; go_simp) ⟨.inl rfl,rfl⟩
  ·have g3:cz 3 = .int .u8 (x.a:Int):=hG 3 rfl (by omega)
   exact zac (.int .i64 (x.a:Int)) rfl (by simp only [g3]; go_simp) ⟨.inl rfl,rfl⟩
  ·exact zac (.pointer (some ⟨w.heap.size,1,none⟩)) rfl (by go_simp) ⟨.inl rfl,rfl⟩
  ·have g5:cz 5 = .pointer (some ⟨w.heap.size,1,none⟩):=hG 5 rfl (by omega)
   exact zac (.slice (some ⟨bu,ou,none⟩) u.length cu) rfl (by simp only [g5]; go_simp) ⟨.inl rfl,rfl⟩
  ·have g6:cz 6 = .slice (some ⟨bu,ou,none⟩) u.length cu:=hG 6 rfl (by omega)
   exact zac (.int .i64 (u.length:Int)) rfl (by simp only [g6]; go_simp) ⟨.inl rfl,rfl⟩
  ·have g4:cz 4 = .int .i64 (x.a:Int):=hG 4 rfl (by omega)
   have g7:cz 7 = .int .i64 (u.length:Int):=hG 7 rfl (by omega)
   exact zac (.int .i64 (ra:Int)) rfl (by simp only [g4,g7]; go_simp) ⟨.inl rfl,rfl⟩
  ·have g1:cz 1 = .slice (some ⟨bu,ou,none⟩) u.length cu:=hG 1 rfl (by omega)
   have g8:cz 8 = .int .i64 (ra:Int):=hG 8 rfl (by omega)
   exact zac (.pointer (some ⟨bu,ou + ra,none⟩)) rfl (by simp only [g1,g8]; go_simp) ⟨.inl rfl,rfl⟩
  ·have g9:cz 9 = .pointer (some ⟨bu,ou + ra,none⟩):=hG 9 rfl (by omega)
   exact zac (.int .u16 (ua:Int)) rfl (by simp only [g9]; go_simp) ⟨.inl rfl,rfl⟩
  ·have g10:cz 10 = .int .u16 (ua:Int):=hG 10 rfl (by omega)
   exact zac (.int .u32 (ua:Int)) rfl (by simp only [g10]; go_simp) ⟨.inl rfl,rfl⟩
  ·exact zac (.pointer (some ⟨w.heap.size,1,none⟩)) rfl (by go_simp) ⟨.inl rfl,rfl⟩
  ·have g12:cz 12 = .pointer (some ⟨w.heap.size,1,none⟩):=hG 12 rfl (by omega)
   exact zac (.slice (some ⟨bu,ou,none⟩) u.length cu) rfl (by simp only [g12]; go_simp) ⟨.inl rfl,rfl⟩
  ·exact zac (.pointer (some ⟨(w.heap.size + 1),2,none⟩)) rfl (by go_simp) ⟨.inl rfl,rfl⟩
  ·have g14:cz 14 = .pointer (some ⟨(w.heap.size + 1),2,none⟩):=hG 14 rfl (by omega)
   exact zac (.int .u8 (x.b:Int)) rfl (by simp only [g14]; go_simp) ⟨.inl rfl,rfl⟩
  ·have g15:cz 15 = .int .u8 (x.b:Int):=hG 15 rfl (by omega)
   exact zac (.int .i64 (x.b:Int)) rfl (by simp only [g15]; go_simp) ⟨.inl rfl,rfl⟩
  ·exact zac (.pointer (some ⟨w.heap.size,1,none⟩)) rfl (by go_simp) ⟨.inl rfl,rfl⟩
  ·have g17:cz 17 = .pointer (some ⟨w.heap.size,1,none⟩):=hG 17 rfl (by omega)
   exact zac (.slice (some ⟨bu,ou,none⟩) u.length cu) rfl (by simp only [g17]; go_simp) ⟨.inl rfl,rfl⟩
  ·have g18:cz 18 = .slice (some ⟨bu,ou,none⟩) u.length cu:=hG 18 rfl (by omega)
   exact zac (.int .i64 (u.length:Int)) rfl (by simp only [g18]; go_simp) ⟨.inl rfl,rfl⟩
  ·have g16:cz 16 = .int .i64 (x.b:Int):=hG 16 rfl (by omega)
   have g19:cz 19 = .int .i64 (u.length:Int):=hG 19 rfl (by omega)
   exact zac (.int .i64 (rb:Int)) rfl (by simp only [g16,g19]; go_simp) ⟨.inl rfl,rfl⟩
  ·have g13:cz 13 = .slice (some ⟨bu,ou,none⟩) u.length cu:=hG 13 rfl (by omega)
   have g20:cz 20 = .int .i64 (rb:Int):=hG 20 rfl (by omega)
   exact zac (.pointer (some ⟨bu,ou + rb,none⟩)) rfl (by simp only [g13,g20]; go_simp) ⟨.inl rfl,rfl⟩
  ·have g21:cz 21 = .pointer (some ⟨bu,ou + rb,none⟩):=hG 21 rfl (by omega)
   exact zac (.int .u16 (ub:Int)) rfl (by simp only [g21]; go_simp) ⟨.inl rfl,rfl⟩
  ·have g22:cz 22 = .int .u16 (ub:Int):=hG 22 rfl (by omega)
   exact zac (.int .u32 (ub:Int)) rfl (by simp only [g22]; go_simp) ⟨.inl rfl,rfl⟩
  ·exact zac (.pointer (some ⟨g5,1,none⟩)) rfl (by go_simp) ⟨.inl rfl,rfl⟩
  ·have g24:cz 24 = .pointer (some ⟨g5,1,none⟩):=hG 24 rfl (by omega)
   have g11:cz 11 = .int .u32 (ua:Int):=hG 11 rfl (by omega)
   exact zbu (wx.setCell ⟨g5,1,none⟩ (.int .u32 (ua:Int))) rfl (by simp only [g24,g11]; go_simp) ⟨.inr rfl,RGv.set 1 (.int .u32 (ua:Int))⟩
  ·exact zac (.pointer (some ⟨g5,2,none⟩)) rfl (by go_simp) ⟨.inl rfl,rfl⟩
 ·rintro op ho cz wx ⟨S,z,RGv⟩ hG
  obtain rfl:=Option.some.inj ho
  have g26:cz 26 = .pointer (some ⟨g5,2,none⟩):=hG 26 (by omega) (by omega)
  have g23:cz 23 = .int .u32 (ub:Int):=hG 23 (by omega) (by omega)
  have R5x:Row wx g5 (opQ o (.int .u32 (ua:Int)) (.int .u32 (o.too:Int)) (.slice q1 n1 k1) (.slice q2 n2 k2) o.fin) 47:=hG 25 (by omega) (by omega)
  have v2:wx.cell? ⟨g5,2,none⟩ = some (.int .u32 (o.too:Int)):=R5x.cell 2
  have fz:wx.frozen? ⟨g5,2,none⟩ = false:=R5x.frozen 2
  exact zbu (wx.setCell ⟨g5,2,none⟩ (.int .u32 (ub:Int))) rfl (by simp only [g26,g23]; go_simp) ⟨S.trans (zaf _ _ _ _),R5x.set 2 (.int .u32 (ub:Int))⟩
 ·rintro cz v w3 ⟨S3,R3⟩
  have HS3:=hdq S3
  have HR3:=hdq R3
  have HRZ3:=hdq (HRZ1.out.stored S3 (by have:=HG5.out; omega))
  have HRX3:=hdq (HRX1.out.stored S3 (by have:=HG5.out; omega))
  have HB3:=hdq (S3.below HB1.out (by have:=HG5.out; omega))
  clear S3 R3 qa qb q4 HCA
  have d0:w3.cell? ⟨g5,0,none⟩ = some (.int .i64 (o.kind:Int)):=HR3.out.cell 0
  have HOK2:Hid (okR w3 (⟨(o.kind:Int),ua,ub,⟨o.name.toArray⟩,o.parts.map fun p=>(p.1,(p.2:Int)),o.starts,o.fin,(o.pos:Int)⟩:RO) (.slice q1 n1 k1) (.slice q2 n2 k2)):=hdq (zap HOK.out (fun b off e=>(HOFF.out.1 b off e).1) (fun b off e=>(HOFF.out.2 b off e).1) rfl rfl HS3.out)
  go_wp2_with (first | (refine zaq (N:=65) rfl rfl 47 _ rfl g5 rfl HR3.out _ Tryz.underlying47 rfl (by kernel_rfl) ?_) | (refine zad rfl 47 _ _ rfl (w.heap.size + 2) (opQ o (.int .u32 (ua:Int)) (.int .u32 (ub:Int)) (.slice q1 n1 k1) (.slice q2 n2 k2) o.fin) rfl rfl HRZ3.out (by kernel_rfl) rfl (by simp [opQ,Value.oneCell']) rfl ?_; intro wz RZ SZ))
  have BZ:=SZ.below HB3.out (show w.heap.size≤(w.heap.size + 2) by omega)
  refine bodyPost_ret (v:=.agg (opQ o (.int .u32 (ua:Int)) (.int .u32 (ub:Int)) (.slice q1 n1 k1) (.slice q2 n2 k2) o.fin)) (zau rfl _ _ RZ rfl Tryz.underlying47 rfl (by kernel_rfl)) rfl ⟨(⟨(o.kind:Int),ua,ub,⟨o.name.toArray⟩,o.parts.map fun p=>(p.1,(p.2:Int)),o.starts,o.fin,(o.pos:Int)⟩:RO),_,_,rfl,?_,by show (0:Int)≤(o.kind:Int); omega,by show (o.kind:Int) < 8; have:=HCAN.out.kind; omega,by have:=HCAN.out.name; simpa [ByteArray.size] using Nat.le_trans this (by omega),by show (o.parts.map _).length≤1000; rw [List.length_map]; have:=HCAN.out.parts.2.1; omega,BZ⟩
  exact zap HOK2.out (fun b off e=>(HOFF.out.1 b off e).2) (fun b off e=>(HOFF.out.2 b off e).2) rfl rfl SZ
set_option maxHeartbeats 16000000 in
set_option maxRecDepth 100000 in
theorem near_7 (c:List Ac) (u kk:List Int) (cv uv kv:Value) (en:Int) (x:Sc.O) (vp vl:Value) (w:World) (hc:CsAt w cv c) (hu:NsAt .u16 w uv u) (hk:NsAt .i32 w kv kk) (hc0:0 < c.length) (hc1:c.length≤1000) (hu0:0 < u.length) (hu1:u.length≤1000) (hub:∀ z ∈ u,0≤z∧z≤65535) (hk0:0 < kk.length) (hk1:kk.length≤1000) (hx:x.ok) (hP:PosAt w vp x.parts) (hL:NsAt .u8 w vl x.long) (hxk:x.kind % 8 = 7) :
  Calls Tryz.prog 11 #[.agg #[cv,uv,kv,.int .i32 en],.agg (ov x vp vl).toArray] w (NearOk w):=by
 obtain ⟨pc,cc,rfl,hEc⟩:=hc
 obtain ⟨pu,cu,rfl,hEu⟩:=hu
 obtain ⟨pk,ck,rfl,hEk⟩:=hk
 obtain ⟨bc,oc,rfl,hcc⟩:∃ b o,pc = some ⟨b,o,none⟩∧∀ i,i < c.length→w.rangeAt b (o + i * 4) (ac (c.getD i ac0)):=by
  rcases hEc with h | h
  ·rw [h] at hc0; simp at hc0
  ·exact h
 obtain ⟨bu,ou,rfl,huu⟩:∃ b o,pu = some ⟨b,o,none⟩∧∀ i,i < u.length→w.cell? ⟨b,o + i,none⟩ = some (.int .u16 (u.getD i 0)):=by
  rcases hEu with h | h
  ·rw [h] at hu0; simp at hu0
  ·exact h
 obtain ⟨bk,ok,rfl,hkk⟩:∃ b o,pk = some ⟨b,o,none⟩∧∀ i,i < kk.length→w.cell? ⟨b,o + i,none⟩ = some (.int .i32 (kk.getD i 0)):=by
  rcases hEk with h | h
  ·rw [h] at hk0; simp at hk0
  ·exact h
 have HRAW:=hdq fun W (hb:Below w.heap.size w W)=>zdx x hx vp vl W (hP.below hb) (hL.below hb)
 obtain ⟨pp,cp,rfl,_⟩:=id hP
 obtain ⟨pl,cl,rfl,_⟩:=id hL
 obtain ⟨np,hnp⟩:∃ n,n = x.parts.length:=⟨_,rfl⟩
 have HCU:=hdq (And.intro hcc (And.intro huu hkk))
 have HLN:=hdq (And.intro hc0 (And.intro hc1 (And.intro hu0 (And.intro hu1 (And.intro hk0 hk1)))))
 have HUB:=hdq hub
 have HX:=hdq hx
 have HLL:=hdq hL
 have HCAN:=hdq (Sc.raw_can x hx)
 have hkx:(Sc.raw x).kind = x.kind % 8:=zci x
 obtain ⟨o,ho⟩:∃ o,o = Sc.raw x:=⟨_,rfl⟩
 rw [← ho] at HCAN hkx HRAW
 have HKX:=hdq hkx
 unfold ov at *
 rw [← hnp] at HRAW ⊢
 have HOO:=hdq ho
 obtain ⟨w0,hw0⟩:∃ w0,w0 = ((w.alloc (.cells #[.slice (some ⟨bc,oc,none⟩) c.length cc,.slice (some ⟨bu,ou,none⟩) u.length cu,.slice (some ⟨bk,ok,none⟩) kk.length ck,.int .i32 en] 41)).alloc (.cells #[.int .u8 (x.kind:Int),.int .u8 (x.a:Int),.int .u8 (x.b:Int),.int .u8 (x.nm:Int),.slice pp np cp,.int .i16 x.first,.slice pl x.long.length cl] 31)).alloc (.cells #[.int .i64 0,.int .u32 0,.int .u32 0,.string ⟨#[]⟩,.slice none 0 0,.slice none 0 0,.int .i32 0,.int .i64 0] 47):=⟨_,rfl⟩
 have hsz0:w0.heap.size = w.heap.size + 3:=by rw [hw0]; simp
 have B0:Below w.heap.size w w0:=by rw [hw0]; exact zaa (zaa (zaa (Below.refl _ w) _) _) _
 have RF:Row w0 w.heap.size #[.slice (some ⟨bc,oc,none⟩) c.length cc,.slice (some ⟨bu,ou,none⟩) u.length cu,.slice (some ⟨bk,ok,none⟩) kk.length ck,.int .i32 en] 41:=by rw [hw0]; exact ((Row.new w _ _).alloc _).alloc _
 have RX:Row w0 (w.heap.size + 1) #[.int .u8 (x.kind:Int),.int .u8 (x.a:Int),.int .u8 (x.b:Int),.int .u8 (x.nm:Int),.slice pp np cp,.int .i16 x.first,.slice pl x.long.length cl] 31:=by rw [hw0]; exact (Row.new' _ _ _ (by simp)).alloc _
 have RZ:Row w0 (w.heap.size + 2) #[.int .i64 0,.int .u32 0,.int .u32 0,.string ⟨#[]⟩,.slice none 0 0,.slice none 0 0,.int .i32 0,.int .i64 0] 47:=by rw [hw0]; exact Row.new' _ _ _ (by simp)
 have HB0:=hdq B0
 have HRF0:=hdq RF
 have HRX0:=hdq RX
 have HRZ0:=hdq RZ
 clear hEc hEu hEk hcc huu hkk hc0 hc1 hu0 hu1 hub hk0 hk1 hx hP hL B0 RF RX RZ ho hnp hkx
 go_enter Tryz.func11,Tryz.ntmps11
 have y0:w0.cell? ⟨(w.heap.size + 1),0,none⟩ = some (.int .u8 (x.kind:Int)):=HRX0.out.cell 0
 have y1:w0.cell? ⟨(w.heap.size + 1),1,none⟩ = some (.int .u8 (x.a:Int)):=HRX0.out.cell 1
 have y2:w0.cell? ⟨(w.heap.size + 1),2,none⟩ = some (.int .u8 (x.b:Int)):=HRX0.out.cell 2
 have y3:w0.cell? ⟨(w.heap.size + 1),3,none⟩ = some (.int .u8 (x.nm:Int)):=HRX0.out.cell 3
 have y4:w0.cell? ⟨(w.heap.size + 1),4,none⟩ = some (.slice pp np cp):=HRX0.out.cell 4
 have y5:w0.cell? ⟨(w.heap.size + 1),5,none⟩ = some (.int .i16 x.first):=HRX0.out.cell 5
 have y6:w0.cell? ⟨(w.heap.size + 1),6,none⟩ = some (.slice pl x.long.length cl):=HRX0.out.cell 6
 rw [hw0] at y0 y1 y2 y3 y4 y5 y6
 go_wp2_with fail
 rw [← hw0]
 refine (HRAW.out _ HB0.out).mono ?_
 clear y0 y1 y2 y3 y4 y5 y6
 rintro _ w1 ⟨v1,v2,rfl,hP1,hN2,hfr1,hfr2,hb⟩
 obtain ⟨q1,k1,rfl,hx1⟩:=id hP1
 obtain ⟨q2,k2,rfl,hx2⟩:=id hN2
 obtain ⟨n1,hn1⟩:∃ n,n = o.parts.length:=⟨_,rfl⟩
 obtain ⟨n2,hn2⟩:∃ n,n = o.starts.length:=⟨_,rfl⟩
 rw [← hn1] at hP1 hfr1 ⊢
 rw [← hn2] at hN2 hfr2 ⊢
 have HN12:=hdq (And.intro hn1 hn2)
 unfold opc
 clear hx1 hx2 hn1 hn2
 replace hfr1:∀ g,(Value.slice q1 n1 k1).ownBlock = some g→w.heap.size + 3≤g∧g < w1.heap.size:=fun g e=>by have:=hfr1 g e; omega
 replace hfr2:∀ g,(Value.slice q2 n2 k2).ownBlock = some g→w.heap.size + 3≤g∧g < w1.heap.size:=fun g e=>by have:=hfr2 g e; omega
 obtain ⟨g5,hg5⟩:∃ g,g = w1.heap.size:=⟨_,rfl⟩
 obtain ⟨w2,hw2⟩:∃ w2,w2 = w1.alloc (.cells #[.int .i64 (o.kind:Int),.int .u32 (o.fr:Int),.int .u32 (o.too:Int),.string ⟨o.name.toArray⟩,.slice q1 n1 k1,.slice q2 n2 k2,.int .i32 o.fin,.int .i64 (o.pos:Int)] 47):=⟨_,rfl⟩
 have R5:Row w2 g5 (opQ o (.int .u32 (o.fr:Int)) (.int .u32 (o.too:Int)) (.slice q1 n1 k1) (.slice q2 n2 k2) o.fin) 47:=by rw [hg5,hw2]; exact Row.new w1 _ _
 have HR5:=hdq R5
 have HRF1:=hdq (show Row w2 w.heap.size #[.slice (some ⟨bc,oc,none⟩) c.length cc,.slice (some ⟨bu,ou,none⟩) u.length cu,.slice (some ⟨bk,ok,none⟩) kk.length ck,.int .i32 en] 41 by rw [hw2]; exact (HRF0.out.below hb).alloc _)
 have HRX1:=hdq (show Row w2 (w.heap.size + 1) #[.int .u8 (x.kind:Int),.int .u8 (x.a:Int),.int .u8 (x.b:Int),.int .u8 (x.nm:Int),.slice pp np cp,.int .i16 x.first,.slice pl x.long.length cl] 31 by rw [hw2]; exact (HRX0.out.below hb).alloc _)
 have HRZ1:=hdq (show Row w2 (w.heap.size + 2) #[.int .i64 0,.int .u32 0,.int .u32 0,.string ⟨#[]⟩,.slice none 0 0,.slice none 0 0,.int .i32 0,.int .i64 0] 47 by rw [hw2]; exact (HRZ0.out.below hb).alloc _)
 have HB1:=hdq (show Below w.heap.size w w2 by rw [hw2]; exact zaa (zab HB0.out hb) _)
 have HG5:=hdq (show (w.heap.size + 2) < g5 by have:=(HRZ0.out.below hb).lt; omega)
 have hok1:okR w2 (⟨(o.kind:Int),o.fr,o.too,⟨o.name.toArray⟩,o.parts.map fun p=>(p.1,(p.2:Int)),o.starts,o.fin,(o.pos:Int)⟩:RO) (.slice q1 n1 k1) (.slice q2 n2 k2):=by rw [hw2]; exact ⟨(zeg hP1).below (zaa (Below.refl _ w1) _),hN2.below (zaa (Below.refl _ w1) _)⟩
 have HOK:=hdq hok1
 have hoff:(∀ b off,q1 = some ⟨b,off,none⟩→b ≠ g5∧b ≠ (w.heap.size + 2))∧∀ b off,q2 = some ⟨b,off,none⟩→b ≠ g5∧b ≠ (w.heap.size + 2):=by
  have hz:=(HRZ0.out.below (Below.refl _ _)).lt
  have hz2:w0.heap.size = (w.heap.size + 2) + 1:=by rw [hw0]; simp
  refine ⟨fun b off e=>?_,fun b off e=>?_⟩
  ·subst e
   have:=hfr1 b rfl
   omega
  ·subst e
   have:=hfr2 b rfl
   omega
 have HOFF:=hdq hoff
 have f0:w2.cell? ⟨w.heap.size,0,none⟩ = some (.slice (some ⟨bc,oc,none⟩) c.length cc):=HRF1.out.cell 0
 have f1:w2.cell? ⟨w.heap.size,1,none⟩ = some (.slice (some ⟨bu,ou,none⟩) u.length cu):=HRF1.out.cell 1
 have f2:w2.cell? ⟨w.heap.size,2,none⟩ = some (.slice (some ⟨bk,ok,none⟩) kk.length ck):=HRF1.out.cell 2
 have f3:w2.cell? ⟨w.heap.size,3,none⟩ = some (.int .i32 en):=HRF1.out.cell 3
 have x1:w2.cell? ⟨(w.heap.size + 1),1,none⟩ = some (.int .u8 (x.a:Int)):=HRX1.out.cell 1
 have x2:w2.cell? ⟨(w.heap.size + 1),2,none⟩ = some (.int .u8 (x.b:Int)):=HRX1.out.cell 2
 have x6:w2.cell? ⟨(w.heap.size + 1),6,none⟩ = some (.slice pl x.long.length cl):=HRX1.out.cell 6
 have d0:w2.cell? ⟨g5,0,none⟩ = some (.int .i64 (o.kind:Int)):=R5.cell 0
 rw [hg5] at d0
 rw [hw2] at d0 f0 f1 f2 f3 x1 x2 x6
 have l1:((c.length:Int) == 0) = false:=beq_eq_false_iff_ne.2 (by have:=HLN.out; omega)
 have l2:((u.length:Int) == 0) = false:=beq_eq_false_iff_ne.2 (by have:=HLN.out; omega)
 have e7:((o.kind:Int) == 7) = true:=by rw [HKX.out,hxk]; rfl
 have e5:((o.kind:Int) == 5) = false:=beq_eq_false_iff_ne.2 (by rw [HKX.out]; omega)
 have e6:((o.kind:Int) == 6) = false:=beq_eq_false_iff_ne.2 (by rw [HKX.out]; omega)
 clear R5 hb hP1 hN2 hok1 hoff hfr1 hfr2
 go_wp2_with fail
 rw [← hg5]
 rw [← hw2]
 clear hg5 f0 f1 f2 f3 x1 x2 x6 d0 hw2 hw0 HRF0 HRX0 HRZ0 HB0
 obtain ⟨s0,hs0⟩:∃ z,z = kk.getD 0 0:=⟨_,rfl⟩
 have ck:=zae (HCU.out.2.2 0 (by have:=HLN.out; omega)) HB1.out
 rw [← hs0,Nat.add_zero] at ck
 have HKA:=hdq ck
 obtain ⟨d1,hd1⟩:∃ z,IntKind.i16.wrap s0 = z:=⟨_,rfl⟩
 obtain ⟨r3,hr3⟩:∃ z,z = x.a % 3:=⟨_,rfl⟩
 have hr32:r3 < 3:=by omega
 have mr3:((x.a:Nat):Int).tmod 3 = (r3:Int):=by rw [Int.tmod_eq_emod_of_nonneg (by omega),hr3]; rfl
 have wr1:IntKind.u8.wrap (r3:Int) = (r3:Int):=by rw [IntKind.wrap_u8]; omega
 have wr2:IntKind.i16.wrap (r3:Int) = (r3:Int):=by rw [zhv]; omega
 obtain ⟨d2,hd2⟩:∃ z,IntKind.i16.wrap (d1 - (r3:Int)) = z:=⟨_,rfl⟩
 have HD2:Hid (-32768≤d2∧d2≤32767):=hdq (by rw [← hd2,zhv]; omega)
 obtain ⟨E,hE⟩:∃ E,E = Sc.dayAt d2 x.long (min x.long.length 12) + 31:=⟨_,rfl⟩
 obtain ⟨ST,hST⟩:∃ ST,ST = Sc.mkStarts d2 x.long (min x.long.length 12):=⟨_,rfl⟩
 obtain ⟨n3,hn3⟩:∃ n,n = min x.long.length 12 + 1:=⟨_,rfl⟩
 have HST:=hdq (And.intro hST hn3)
 have HE:=hdq hE
 have kq1:(0:Int) < (kk.length:Int):=by have:=HLN.out; omega
 have kq0:0 < kk.length:=by have:=HLN.out; omega
 have q5:¬ kk = []:=fun e=>by have:=HLN.out; rw [e] at this; simp at this
 clear hs0 ck hr3 hr32 hE hST hn3
 refine zbp (n:=16) 15 20 (by kernel_rfl) (fun w'=>Below w2.heap.size w2 w') (fun i w' v=>if i = 13 then (∃ kv,v = .agg #[kv,.int .i32 E]∧w'.ownsRow w2.heap.size 37 1 kv n3 (nv .i32 ST)) else v = (#[.pointer (some ⟨w.heap.size,2,none⟩),.pointer (some ⟨w.heap.size,2,none⟩),.slice (some ⟨bk,ok,none⟩) kk.length ck,.pointer (some ⟨bk,ok,none⟩),.int .i32 s0,.int .i16 d1,.pointer (some ⟨(w.heap.size + 1),1,none⟩),.int .u8 (x.a:Int),.int .u8 (r3:Int),.int .i16 (r3:Int),.int .i16 d2,.pointer (some ⟨(w.heap.size + 1),6,none⟩),.slice pl x.long.length cl,undef,.pointer (some ⟨g5,5,none⟩)]:Array Value).getD i undef)
  (fun cz v w'=>∃ kv wx,Below w2.heap.size w2 wx∧Stored wx g5 w'∧Row w' g5 (opQ o (.int .u32 (o.fr:Int)) (.int .u32 (o.too:Int)) (.slice q1 n1 k1) (kv) E) 47∧w'.ownsRow w2.heap.size 37 1 kv n3 (nv .i32 ST)) (by kernel_rfl) (by kernel_rfl) (by kernel_rfl) (zat (Below.refl _ _)) rfl (fun _ _ a b=>zab a b) (fun i w1 w2 v hb h=>by
   by_cases c:i = 13
   ·rw [if_pos c] at h ⊢
    obtain ⟨kv,h1,h2⟩:=h
    exact ⟨kv,h1,zai h2 hb⟩
   ·rw [if_neg c] at h ⊢; exact h) ?_
 intro F Fz hF hFz
 simp only [fill,updV,dstAt] at hF hFz
 simp [Act.put] at hF hFz
 obtain rfl:F = fun cz=>_:=funext fun cz=>(hF cz).symm
 obtain rfl:Fz = fun cz v=>_:=funext fun cz=>funext fun v=>(hFz cz v).symm
 clear hF hFz
 refine ⟨?_,?_,?_⟩
 ·intro i op ho nez cz wx S hG
  have RFx:=HRF1.out.below S
  have RXx:=HRX1.out.below S
  have f2:wx.cell? ⟨w.heap.size,2,none⟩ = some (.slice (some ⟨bk,ok,none⟩) kk.length ck):=RFx.cell 2
  have x1:wx.cell? ⟨(w.heap.size + 1),1,none⟩ = some (.int .u8 (x.a:Int)):=RXx.cell 1
  have x6:wx.cell? ⟨(w.heap.size + 1),6,none⟩ = some (.slice pl x.long.length cl):=RXx.cell 6
  have ek:wx.cell? ⟨bk,ok,none⟩ = some (.int .i32 s0):=zae HKA.out S
  rcases i with _ | _ | _ | _ | _ | _ | _ | _ | _ | _ | _ | _ | _ | _ | _ | _ | i
  all_goals (first | (exact absurd rfl nez) | (simp at ho; done) | (obtain rfl:=Option.some.inj ho))
  ·exact zac (.pointer (some ⟨w.heap.size,2,none⟩)) rfl (by go_simp) ⟨Below.refl _ _,rfl⟩
  ·have g0:cz 0 = .pointer (some ⟨w.heap.size,2,none⟩):=hG 0 rfl (by omega)
   exact zac (.pointer (some ⟨w.heap.size,2,none⟩)) rfl (by simp only [g0]; go_simp) ⟨Below.refl _ _,rfl⟩
  ·have g1:cz 1 = .pointer (some ⟨w.heap.size,2,none⟩):=hG 1 rfl (by omega)
   exact zac (.slice (some ⟨bk,ok,none⟩) kk.length ck) rfl (by simp only [g1]; go_simp) ⟨Below.refl _ _,rfl⟩
  ·have g2:cz 2 = .slice (some ⟨bk,ok,none⟩) kk.length ck:=hG 2 rfl (by omega)
   exact zac (.pointer (some ⟨bk,ok,none⟩)) rfl (by simp only [g2]; go_simp) ⟨Below.refl _ _,rfl⟩
  ·have g3:cz 3 = .pointer (some ⟨bk,ok,none⟩):=hG 3 rfl (by omega)
   exact zac (.int .i32 s0) rfl (by simp only [g3]; go_simp) ⟨Below.refl _ _,rfl⟩
  ·have g4:cz 4 = .int .i32 s0:=hG 4 rfl (by omega)
   exact zac (.int .i16 d1) rfl (by simp only [g4]; go_simp) ⟨Below.refl _ _,rfl⟩
  ·exact zac (.pointer (some ⟨(w.heap.size + 1),1,none⟩)) rfl (by go_simp) ⟨Below.refl _ _,rfl⟩
  ·have g6:cz 6 = .pointer (some ⟨(w.heap.size + 1),1,none⟩):=hG 6 rfl (by omega)
   exact zac (.int .u8 (x.a:Int)) rfl (by simp only [g6]; go_simp) ⟨Below.refl _ _,rfl⟩
  ·have g7:cz 7 = .int .u8 (x.a:Int):=hG 7 rfl (by omega)
   exact zac (.int .u8 (r3:Int)) rfl (by simp only [g7]; go_simp) ⟨Below.refl _ _,rfl⟩
  ·have g8:cz 8 = .int .u8 (r3:Int):=hG 8 rfl (by omega)
   exact zac (.int .i16 (r3:Int)) rfl (by simp only [g8]; go_simp) ⟨Below.refl _ _,rfl⟩
  ·have g5:cz 5 = .int .i16 d1:=hG 5 rfl (by omega)
   have g9:cz 9 = .int .i16 (r3:Int):=hG 9 rfl (by omega)
   exact zac (.int .i16 d2) rfl (by simp only [g5,g9]; go_simp) ⟨Below.refl _ _,rfl⟩
  ·exact zac (.pointer (some ⟨(w.heap.size + 1),6,none⟩)) rfl (by go_simp) ⟨Below.refl _ _,rfl⟩
  ·have g11:cz 11 = .pointer (some ⟨(w.heap.size + 1),6,none⟩):=hG 11 rfl (by omega)
   exact zac (.slice pl x.long.length cl) rfl (by simp only [g11]; go_simp) ⟨Below.refl _ _,rfl⟩
  ·have g10:cz 10 = .int .i16 d2:=hG 10 rfl (by omega)
   have g12:cz 12 = .slice pl x.long.length cl:=hG 12 rfl (by omega)
   exact zdu rfl rfl Tryz.func30 (by kernel_rfl) rfl #[.int .i16 d2,.slice pl x.long.length cl] (by simp only [g10,g12]; go_simp) ((zfv d2 (.slice pl x.long.length cl) x.long HD2.out HX.out.long HX.out.llen wx (HLL.out.below (HB1.out.trans (S.mono HB1.out.size)))).mono fun e w' ⟨v,h1,h2,h3⟩=>⟨_,h1,h3,v,by rw [HE.out],by rw [HST.out.2,HST.out.1]; exact ownMono h2 S.size⟩)
  ·exact zac (.pointer (some ⟨g5,5,none⟩)) rfl (by go_simp) ⟨Below.refl _ _,rfl⟩
 ·intro op ho cz wx S hG
  obtain rfl:=Option.some.inj ho
  have g14:cz 14 = .pointer (some ⟨g5,5,none⟩):=hG 14 (by omega) (by omega)
  obtain ⟨kv,g13,own⟩:=hG 13 (by omega) (by omega)
  obtain ⟨q3,k3,rfl⟩:=zaj own
  have R5x:=HR5.out.below S
  have hno:(Value.slice q3 n3 k3).ownBlock ≠ some g5:=zbz own R5x (by show ¬ (47:Nat) = 37; omega)
  have SS:=zag g5 [.slice q3 n3 k3,.int .i32 E] 5 wx
  exact zjy rfl 39 _ _ rfl g5 5 [.slice q3 n3 k3,.int .i32 E] (by simp only [g14]; go_simp) (by simp only [g13]; go_simp) R5x (by kernel_rfl) (by show 5 + 2≤8; omega) (by simp [opQ,Value.oneCell']) ⟨_,wx,S,SS,Row.setCells [.slice q3 n3 k3,.int .i32 E] 5 R5x,zak own SS hno⟩
 ·rintro cz v w3 ⟨kv,wx,SX,SS,R3,own⟩
  obtain ⟨q3,k3,rfl⟩:=zaj own
  have HR3:=hdq R3
  have HRZ3:=hdq ((HRZ1.out.below SX).stored SS (by have:=HG5.out; omega))
  have HRX3:=hdq ((HRX1.out.below SX).stored SS (by have:=HG5.out; omega))
  have HRF3:=hdq ((HRF1.out.below SX).stored SS (by have:=HG5.out; omega))
  have HB3:=hdq (SS.below (HB1.out.trans (SX.mono HB1.out.size)) (by have:=HG5.out; omega))
  have hlen:ST.length = n3:=by rw [HST.out.1,HST.out.2]; unfold Sc.mkStarts; simp
  have hNS:=(NsAt.of_own (k:=.i32) own).1
  have hq3:∀ b off,q3 = some ⟨b,off,none⟩→b ≠ g5∧b ≠ (w.heap.size + 2):=fun b off e=>by
   subst e
   have a1:w2.heap.size≤b:=(zbc (g:=b) own rfl).1
   have a2:g5 < w2.heap.size:=HR5.out.lt
   have a3:=HG5.out
   omega
  have HOK3:Hid (okR w3 (⟨(o.kind:Int),o.fr,o.too,⟨o.name.toArray⟩,o.parts.map fun p=>(p.1,(p.2:Int)),ST,E,(o.pos:Int)⟩:RO) (.slice q1 n1 k1) (.slice q3 n3 k3)):=hdq ⟨(zap (HOK.out.below SX) (fun b off e=>(HOFF.out.1 b off e).1) (fun b off e=>(HOFF.out.2 b off e).1) rfl rfl SS).1,hNS⟩
  have HQ3:=hdq hq3
  clear SX SS R3 own hNS hq3 hlen mr3 wr1 wr2 kq1 kq0 q5 hd1 hd2
  have e6:w3.cell? ⟨g5,6,none⟩ = some (.int .i32 E):=HR3.out.cell 6
  have f3:w3.cell? ⟨w.heap.size,3,none⟩ = some (.int .i32 en):=HRF3.out.cell 3
  have x2:w3.cell? ⟨(w.heap.size + 1),2,none⟩ = some (.int .u8 (x.b:Int)):=HRX3.out.cell 2
  obtain ⟨r4,hr4⟩:∃ z,z = x.b % 3:=⟨_,rfl⟩
  have hr42:r4 < 3:=by omega
  have mr4:((x.b:Nat):Int).tmod 3 = (r4:Int):=by rw [Int.tmod_eq_emod_of_nonneg (by omega),hr4]; rfl
  have wr3:IntKind.u8.wrap (r4:Int) = (r4:Int):=by rw [IntKind.wrap_u8]; omega
  have wr4:IntKind.i32.wrap (r4:Int) = (r4:Int):=by rw [IntKind.wrap_i32]; omega
  obtain ⟨e2,he2⟩:∃ z,IntKind.i32.wrap (en + (r4:Int)) = z:=⟨_,rfl⟩
  clear hr4 hr42
  have S4:=zag g5 [.int .i32 (max E e2)] 6 w3
  have R4:Row (w3.setCells g5 6 [.int .i32 (max E e2)]) g5 (opQ o (.int .u32 (o.fr:Int)) (.int .u32 (o.too:Int)) (.slice q1 n1 k1) (.slice q3 n3 k3) (max E e2)) 47:=Row.setCells [.int .i32 (max E e2)] 6 HR3.out
  have HR4:=hdq R4
  have HRZ4:=hdq (HRZ3.out.stored S4 (by have:=HG5.out; omega))
  have HB4:=hdq (S4.below HB3.out (by have:=HG5.out; omega))
  have HOK2:Hid (okR (w3.setCells g5 6 [.int .i32 (max E e2)]) (⟨(o.kind:Int),o.fr,o.too,⟨o.name.toArray⟩,o.parts.map fun p=>(p.1,(p.2:Int)),ST,(max E e2),(o.pos:Int)⟩:RO) (.slice q1 n1 k1) (.slice q3 n3 k3)):=hdq (zap HOK3.out (fun b off e=>(HOFF.out.1 b off e).1) (fun b off e=>(HQ3.out b off e).1) rfl rfl S4)
  clear S4 R4
  go_wp2_with (first | (refine zam rfl 37 _ _ rfl g5 6 (.int .i32 (max E e2)) rfl rfl rfl HR3.out (by kernel_rfl) (by show 6 < 8; omega) rfl rfl ?_) | (refine zaq (N:=98) rfl rfl 47 _ rfl g5 rfl HR4.out _ Tryz.underlying47 rfl (by kernel_rfl) ?_) | (refine zad rfl 47 _ _ rfl (w.heap.size + 2) (opQ o (.int .u32 (o.fr:Int)) (.int .u32 (o.too:Int)) (.slice q1 n1 k1) (.slice q3 n3 k3) (max E e2)) rfl rfl HRZ4.out (by kernel_rfl) rfl (by simp [opQ,Value.oneCell']) rfl ?_; intro wz RZ SZ))
  have BZ:=SZ.below HB4.out (show w.heap.size≤(w.heap.size + 2) by omega)
  refine bodyPost_ret (v:=.agg (opQ o (.int .u32 (o.fr:Int)) (.int .u32 (o.too:Int)) (.slice q1 n1 k1) (.slice q3 n3 k3) (max E e2))) (zau rfl _ _ RZ rfl Tryz.underlying47 rfl (by kernel_rfl)) rfl ⟨(⟨(o.kind:Int),o.fr,o.too,⟨o.name.toArray⟩,o.parts.map fun p=>(p.1,(p.2:Int)),ST,(max E e2),(o.pos:Int)⟩:RO),_,_,rfl,?_,by show (0:Int)≤(o.kind:Int); omega,by show (o.kind:Int) < 8; have:=HCAN.out.kind; omega,by have:=HCAN.out.name; simpa [ByteArray.size] using Nat.le_trans this (by omega),by show (o.parts.map _).length≤1000; rw [List.length_map]; have:=HCAN.out.parts.2.1; omega,BZ⟩
  exact zap HOK2.out (fun b off e=>(HOFF.out.1 b off e).2) (fun b off e=>(HQ3.out b off e).2) rfl rfl SZ
end Go.Proofs.YtlpdfglbdijkoaaGreatDoor