/-
  Own texts, several in one (Par5, Par6, Par7, Par8).
-/
import Derived.Test.YtlpdfglbdijkoaaGreatDoorMrg24
import Derived.Defers
import Derived.Recover
import Derived.RegionTactic
namespace Go.Proofs.YtlpdfglbdijkoaaGreatDoor
open Go.RowKit
set_option linter.unusedVariables false
set_option linter.unusedSimpArgs false
theorem zqg {w:World} {B n sz:Nat} {e:TypeId} {v:Value} {xs:List Value} (h:w.ownsRow B e sz v n xs):∃ p cap,v = .slice p n cap:=by
 obtain ⟨_,h⟩:=h
 rcases h with ⟨rfl,rfl⟩ | ⟨g,cap,cur,rfl,_⟩
 ·exact ⟨_,_,rfl⟩
 ·exact ⟨_,_,rfl⟩
def opK (k pos:Nat):Sc.Op:={ Sc.op0 with kind:=k,pos:=pos }
theorem zfd (w:World) (h i:Nat) (v:Value):Only (· = h) w (w.setCell ⟨h,i,none⟩ v):=(Only.refl (· = h) w).setCell (p:=⟨h,i,none⟩) (.inl rfl) v
def two (g ho:Nat):Nat→Prop:=fun q=>q = g∨q = ho
def restR (B g b ho pos:Nat) (r:Except (Nat × Nat) (Sc.Op × List Lx.Tk)) (e:Ending) (w':World):Prop :=
 match r with
 | .ok (o,l)=>e = .returned (.tuple #[])∧PsAt w' g b l∧∃ v1 v2,Row w' ho (opc { o with pos:=pos } v1 v2).toArray 47∧PtsAt w' v1 o.parts∧NsAt .i32 w' v2 o.starts∧∀ q,(v1.ownBlock = some q∨v2.ownBlock = some q)→B≤q∧q < w'.heap.size
 | .error (p,c)=>e = stopE p c
theorem pts_no (w:World):PtsAt w (.slice none 0 0) []:=⟨none,0,rfl,.inl rfl⟩
theorem ns_no (w:World):NsAt .i32 w (.slice none 0 0) []:=⟨none,0,rfl,.inl rfl⟩
set_option maxHeartbeats 4000000 in
set_option maxRecDepth 100000 in
theorem rest_0 (g b ho pos:Nat) (l:List Lx.Tk) (W0 w:World) (hM:Glb13 W0) (hB:Below W0.heap.size W0 w) (hg0:W0.heap.size≤g) (ho0:W0.heap.size≤ho) (h:PsAt w g b l) (hE:Sc.Ended l) (R:Row w ho (opc (opK 0 pos) (.slice none 0 0) (.slice none 0 0)).toArray 47) (hgo:g ≠ ho) (hbo:b ≠ ho) :
  Calls Tryz.prog 80 #[.pointer (some ⟨g,0,none⟩),.pointer (some ⟨ho,0,none⟩)] w fun e w'=>restR w.heap.size g b ho pos (Sc.restOf 0 l) e w'∧Only (two g ho) w w':=by
 obtain ⟨res,hres⟩:∃ r,r = Sc.restOf 0 l:=⟨_,rfl⟩
 rw [← hres]
 have HL:=hdq (And.intro h.lt (And.intro (h.bl hE) R.lt))
 have HM:Hid (∀ w',Only (two g ho) w w'→Glb13 w'):=hdq fun w' O=>zmn hM hB O (fun k e=>by rcases e with e | e <;> omega)
 have HGO:=hdq (And.intro hgo hbo)
 have k0:w.cell? ⟨ho,0,none⟩ = some (.int .i64 0):=R.cell 0
 have H0:=hdq (And.intro R (And.intro h (And.intro (Only.refl (two g ho) w) hE)))
 have hres2:res = match Sc.num 1 999999 l with
  | .error e=>.error e
  | .ok (n,l1)=>match Sc.must 1 (Sc.link 0) l1 with
   | .error e=>.error e
   | .ok (_,l2)=>match Sc.num 1 999999 l2 with
    | .error e=>.error e
    | .ok (m,l3)=>.ok ({ Sc.op0 with kind:=0,fr:=n.toNat,too:=m.toNat },l3):=by
  rw [hres]
  unfold Sc.restOf
  rw [if_neg (by omega),show Sc.most 0 = 999999 from rfl,show Sc.least 0 = 1 from rfl]
  rcases Sc.num 1 999999 l with e | ⟨n,l1⟩
  ·rfl
  ·dsimp only
   rcases Sc.must 1 (Sc.link 0) l1 with e | ⟨t,l2⟩
   ·rfl
   ·dsimp only
    rcases Sc.num 1 999999 l2 with e | ⟨m,l3⟩ <;> rfl
 have HRES:=hdq hres2
 clear hres hres2 h hE hM hB R
 go_enter Tryz.func80,Tryz.ntmps80
 go_wp2_with fail
 refine (zba 0 w).mono ?_
 rintro _ w ⟨rfl,rfl⟩
 go_wp2_with fail
 refine (zlt 1 999999 g b l w H0.out.2.1 H0.out.2.2.2).mono ?_
 rintro e w1' ⟨hr,O⟩
 rcases hm:Sc.num 1 999999 l with ⟨p,c⟩ | ⟨n,L1⟩
 ·have hres:=HRES.out
  rw [hm] at hr hres
  have HRES:=hdq hres
  have HO:=hdq (H0.out.2.2.1.trans (O.mono fun k e=>.inl e))
  have he:e = stopE p c:=hr
  rw [he]
  clear hres O he hm
  unfold stopE
  go_wp2_with fail
  refine ⟨rfl,?_,HO.out⟩
  rw [HRES.out]
  rfl
 ·have hres:=HRES.out
  rw [hm] at hr hres
  obtain ⟨he,hp⟩:e = .returned (.int .i64 n)∧PsAt w1' g b L1:=hr
  rw [he]
  have hk:=Sc.num_ok hm H0.out.2.2.2
  have hE2:=hk.2.2.1
  obtain ⟨m1,rfl⟩:=Int.eq_ofNat_of_zero_le (show 0≤n by omega)
  have hu:IntKind.u32.wrap (m1:Int) = (m1:Int):=by rw [IntKind.wrap_u32]; omega
  have HRES:=hdq hres
  clear hres hk
  have hn:¬ ho = g:=fun e=>HGO.out.1 e.symm
  have RB:=O.row H0.out.1 hn
  have k1:w1'.cell? ⟨ho,1,none⟩ = some (.int .u32 0):=RB.cell 1
  have z1:=RB.frozen 1
  have SH:Only (· = ho) w1' (w1'.setCell ⟨ho,1,none⟩ (.int .u32 (m1:Int))):=zfd _ _ _ _
  have RA:Row (w1'.setCell ⟨ho,1,none⟩ (.int .u32 (m1:Int))) ho #[.int .i64 0,.int .u32 (m1:Int),.int .u32 0,.string ⟨#[]⟩,.slice none 0 0,.slice none 0 0,.int .i32 0,.int .i64 (pos:Int)] 47:=RB.set 1 _
  have hpA:=hp.only SH HGO.out.1 HGO.out.2
  have OA:=(H0.out.2.2.1.trans (O.mono fun k e=>.inl e)).trans (SH.mono (S':=two g ho) fun k e=>.inr e)
  have kA:(w1'.setCell ⟨ho,1,none⟩ (.int .u32 (m1:Int))).cell? ⟨ho,0,none⟩ = some (.int .i64 0):=RA.cell 0
  have H1:=hdq (And.intro RA (And.intro hpA (And.intro OA hE2)))
  clear RA hpA OA SH RB hp O hE2 hn hm he
  go_wp2_with fail
  generalize (w1'.setCell ⟨ho,1,none⟩ (.int .u32 (m1:Int))) = wA at *
  refine (zmf 0 (by omega) wA (HM.out wA H1.out.2.2.1)).mono ?_
  rintro _ wA ⟨rfl,rfl⟩
  go_wp2_with fail
  refine (zhf 1 (Sc.link 0) g b L1 wA H1.out.2.1 H1.out.2.2.2 (by omega)).mono ?_
  rintro e w2' ⟨hr,O⟩
  rcases hm:Sc.must 1 (Sc.link 0) L1 with ⟨p,c⟩ | ⟨t2,L2⟩
  ·have hres:=HRES.out
   rw [hm] at hr hres
   have HRES:=hdq hres
   have HO:=hdq (H1.out.2.2.1.trans (O.mono fun k e=>.inl e))
   have he:e = stopE p c:=hr
   rw [he]
   clear hres O he hm
   unfold stopE
   go_wp2_with fail
   refine ⟨rfl,?_,HO.out⟩
   rw [HRES.out]
   rfl
  ·have hres:=HRES.out
   rw [hm] at hr hres
   obtain ⟨he,hp⟩:e = .returned (.agg (tk t2).toArray)∧PsAt w2' g b L2:=hr
   rw [he]
   have hE2:=(Sc.must_ended hm (by omega) H1.out.2.2.2).1
   have HRES:=hdq hres
   clear hres
   have RB:=O.row H1.out.1 (show ¬ ho = g from fun e=>HGO.out.1 e.symm)
   have kA:w2'.cell? ⟨ho,0,none⟩ = some (.int .i64 0):=RB.cell 0
   have OA:=H1.out.2.2.1.trans (O.mono (S':=two g ho) fun k e=>.inl e)
   have H2:=hdq (And.intro RB (And.intro hp (And.intro OA hE2)))
   clear RB hp OA O hE2 hm he
   unfold tk
   go_wp2_with fail
   refine (zlt 1 999999 g b L2 w2' H2.out.2.1 H2.out.2.2.2).mono ?_
   rintro e w3' ⟨hr,O⟩
   rcases hm:Sc.num 1 999999 L2 with ⟨p,c⟩ | ⟨n,L3⟩
   ·have hres:=HRES.out
    rw [hm] at hr hres
    have HRES:=hdq hres
    have HO:=hdq (H2.out.2.2.1.trans (O.mono fun k e=>.inl e))
    have he:e = stopE p c:=hr
    rw [he]
    clear hres O he hm
    unfold stopE
    go_wp2_with fail
    refine ⟨rfl,?_,HO.out⟩
    rw [HRES.out]
    rfl
   ·have hres:=HRES.out
    rw [hm] at hr hres
    obtain ⟨he,hp⟩:e = .returned (.int .i64 n)∧PsAt w3' g b L3:=hr
    rw [he]
    have hk:=Sc.num_ok hm H2.out.2.2.2
    have hE2:=hk.2.2.1
    obtain ⟨m2,rfl⟩:=Int.eq_ofNat_of_zero_le (show 0≤n by omega)
    have hu:IntKind.u32.wrap (m2:Int) = (m2:Int):=by rw [IntKind.wrap_u32]; omega
    have HRES:=hdq hres
    clear hres hk
    have hn:¬ ho = g:=fun e=>HGO.out.1 e.symm
    have RB:=O.row H2.out.1 hn
    have k2:w3'.cell? ⟨ho,2,none⟩ = some (.int .u32 0):=RB.cell 2
    have z2:=RB.frozen 2
    have SH:Only (· = ho) w3' (w3'.setCell ⟨ho,2,none⟩ (.int .u32 (m2:Int))):=zfd _ _ _ _
    have RA:Row (w3'.setCell ⟨ho,2,none⟩ (.int .u32 (m2:Int))) ho #[.int .i64 0,.int .u32 (m1:Int),.int .u32 (m2:Int),.string ⟨#[]⟩,.slice none 0 0,.slice none 0 0,.int .i32 0,.int .i64 (pos:Int)] 47:=RB.set 2 _
    have hpA:=hp.only SH HGO.out.1 HGO.out.2
    have OA:=(H2.out.2.2.1.trans (O.mono fun k e=>.inl e)).trans (SH.mono (S':=two g ho) fun k e=>.inr e)
    have kA:(w3'.setCell ⟨ho,2,none⟩ (.int .u32 (m2:Int))).cell? ⟨ho,0,none⟩ = some (.int .i64 0):=RA.cell 0
    have H3:=hdq (And.intro RA (And.intro hpA (And.intro OA hE2)))
    clear RA hpA OA SH RB hp O hE2 hn hm he
    go_wp2_with fail
    have hF:=H3.out
    first | go_end0 | refine bodyPost_ret (results_none rfl _ _ _) rfl ?_
    refine ⟨?_,hF.2.2.1⟩
    rw [HRES.out]
    exact ⟨rfl,hF.2.1,.slice none 0 0,.slice none 0 0,hF.1,pts_no _,ns_no _,fun q hq=>by rcases hq with hq | hq <;> cases hq⟩
def RestC (k:Nat):Prop:=∀ (g b ho pos:Nat) (l:List Lx.Tk) (W0 w:World) (hM:Glb13 W0) (hB:Below W0.heap.size W0 w) (hg0:W0.heap.size≤g) (ho0:W0.heap.size≤ho) (h:PsAt w g b l) (hE:Sc.Ended l) (hlen:l.length≤70000) (R:Row w ho (opc (opK k pos) (.slice none 0 0) (.slice none 0 0)).toArray 47) (hgo:g ≠ ho) (hbo:b ≠ ho),Calls Tryz.prog 80 #[.pointer (some ⟨g,0,none⟩),.pointer (some ⟨ho,0,none⟩)] w fun e w'=>restR w.heap.size g b ho pos (Sc.restOf k l) e w'∧Only (two g ho) w w'
theorem zuv {P:Program} {c:Code} {Q:Exit→Act→World→Prop} {a:Act} {w:World} (h:∀ Q',Q' = Q→c.wp P Q' a w):c.wp P Q a w:=h Q rfl
def three (g1 g2 g3:Nat):Nat→Prop:=fun q=>q = g1∨q = g2∨q = g3
set_option maxHeartbeats 4000000 in
set_option maxRecDepth 100000 in
theorem zou (g1 g2 g3:Nat) (w:World) :
  CallsD Tryz.prog 77 #[.pointer (some ⟨g1,0,none⟩),.pointer (some ⟨g2,0,none⟩),.pointer (some ⟨g3,0,none⟩)] .returning w fun e u' w'=>e = .returned (.tuple #[])∧u' = .returning∧w' = w:=by
 refine callsD_of_wpS Tryz.func77 rfl fun c₀ cs hu=>?_
 simp only [Tryz.ntmps77,List.size_toArray,List.length_cons,List.length_nil,Nat.reduceAdd,Nat.reduceSub,Array.replicate_succ,Array.replicate_zero,List.push_toArray,List.append_toArray,List.nil_append,List.cons_append]
 apply wpS_seq
 apply wpS_region
 simp [wpOpsS,go_sem,recoverD,hu,Exit.thenS]
 refine wpS_of_wp ?_
 refine zuv fun Q' hQ=>?_
 have HQ:=hdq hQ
 clear hQ
 go_wp2_with fail
 rw [HQ.out]
 cases c₀
 simp_all [bodyPostS,results,Tryz.results77]
set_option maxHeartbeats 4000000 in
set_option maxRecDepth 100000 in
theorem zot (g1 g2 g3 p er:Nat) (older:List PanicEntry) (v1:Value) (x2 x3:Int) (w:World) (R1:Row w g1 #[v1] 63) (R2:Row w g2 #[.int .i64 x2] 3) (R3:Row w g3 #[.int .i64 x3] 49) (h12:g1 ≠ g2) (h13:g1 ≠ g3) (h23:g2 ≠ g3) :
  CallsD Tryz.prog 77 #[.pointer (some ⟨g1,0,none⟩),.pointer (some ⟨g2,0,none⟩),.pointer (some ⟨g3,0,none⟩)] (.panicking ({ v:=.iface 152 (.agg #[.int .i64 (p:Int),.int .i64 (er:Int)]),recovered:=false } :: older)) w fun e u' w'=>e = .returned (.tuple #[])∧u' = .panicking ({ v:=.iface 152 (.agg #[.int .i64 (p:Int),.int .i64 (er:Int)]),recovered:=true } :: older)∧(Row w' g1 #[.slice none 0 0] 63∧Row w' g2 #[.int .i64 (p:Int)] 3∧Row w' g3 #[.int .i64 (er:Int)] 49)∧Only (three g1 g2 g3) w w':=by
 refine callsD_of_wpS Tryz.func77 rfl fun c₀ cs hu=>?_
 simp only [Tryz.ntmps77,List.size_toArray,List.length_cons,List.length_nil,Nat.reduceAdd,Nat.reduceSub,Array.replicate_succ,Array.replicate_zero,List.push_toArray,List.append_toArray,List.nil_append,List.cons_append]
 apply wpS_seq
 apply wpS_region
 simp [wpOpsS,go_sem,recoverD,hu,Exit.thenS]
 refine wpS_of_wp ?_
 refine zuv fun Q' hQ=>?_
 have HQ:=hdq hQ
 clear hQ
 have hta:∀ w,(Instr.typeAssert (.iface 152 (.agg #[.int .i64 (p:Int),.int .i64 (er:Int)])) 20 152 true).run Tryz.prog w = .ok (.tuple #[.agg #[.int .i64 (p:Int),.int .i64 (er:Int)],.bool true]) w:=fun w=>by kernel_rfl
 have c1:w.cell? ⟨g1,0,none⟩ = some v1:=R1.cell 0
 have c2:w.cell? ⟨g2,0,none⟩ = some (.int .i64 x2):=R2.cell 0
 have c3:w.cell? ⟨g3,0,none⟩ = some (.int .i64 x3):=R3.cell 0
 have z1:=R1.frozen 0
 have z2:=R2.frozen 0
 have z3:=R3.frozen 0
 go_wp2_with fail
 have RS:=Row.new w #[.int .i64 (p:Int),.int .i64 (er:Int)] 152
 have Q1:=R1.alloc (.cells #[.int .i64 (p:Int),.int .i64 (er:Int)] 152)
 have Q2:=R2.alloc (.cells #[.int .i64 (p:Int),.int .i64 (er:Int)] 152)
 have Q3:=R3.alloc (.cells #[.int .i64 (p:Int),.int .i64 (er:Int)] 152)
 have OO:=hdq ((Only.refl (three g1 g2 g3) w).alloc (.cells #[.int .i64 (p:Int),.int .i64 (er:Int)] 152))
 have n1:w.heap.size ≠ g1:=by have:=R1.lt; omega
 have n2:w.heap.size ≠ g2:=by have:=R2.lt; omega
 have n3:w.heap.size ≠ g3:=by have:=R3.lt; omega
 clear hta c1 c2 c3 z1 z2 z3
 generalize w.alloc (.cells #[.int .i64 (p:Int),.int .i64 (er:Int)] 152) = w1 at *
 generalize w.heap.size = gs at *
 have c1:w1.cell? ⟨g1,0,none⟩ = some v1:=Q1.cell 0
 have c2:w1.cell? ⟨g2,0,none⟩ = some (.int .i64 x2):=Q2.cell 0
 have c3:w1.cell? ⟨g3,0,none⟩ = some (.int .i64 x3):=Q3.cell 0
 have c4:w1.cell? ⟨gs,0,none⟩ = some (.int .i64 (p:Int)):=RS.cell 0
 have c5:w1.cell? ⟨gs,1,none⟩ = some (.int .i64 (er:Int)):=RS.cell 1
 have z1:=Q1.frozen 0
 have z2:=Q2.frozen 0
 have z3:=Q3.frozen 0
 have m1:=n1.symm
 have m2:=n2.symm
 have m3:=n3.symm
 have h21:=h12.symm
 have h31:=h13.symm
 have h32:=h23.symm
 have HQ1:=hdq Q1
 have HQ2:=hdq Q2
 have HQ3:=hdq Q3
 clear R1 R2 R3 Q1 Q2 Q3 RS
 go_region
 rw [HQ.out]
 have O1:=HQ1.out.set 0 (.slice none 0 0)
 have RA:=((HQ1.out.set 0 (.slice none 0 0)).other ⟨g2,0,none⟩ h12 (.int .i64 (p:Int))).other ⟨g3,0,none⟩ h13 (.int .i64 (er:Int))
 have RB:=((HQ2.out.other ⟨g1,0,none⟩ h21 (.slice none 0 0)).set 0 (.int .i64 (p:Int))).other ⟨g3,0,none⟩ h23 (.int .i64 (er:Int))
 have RC:=((HQ3.out.other ⟨g1,0,none⟩ h31 (.slice none 0 0)).other ⟨g2,0,none⟩ h32 (.int .i64 (p:Int))).set 0 (.int .i64 (er:Int))
 exact ⟨rfl,_,rfl,.tuple #[],results_none rfl _ _ _,rfl,rfl,⟨RA.drew,RB.drew,RC.drew⟩,(((OO.out.setCell (p:=⟨g1,0,none⟩) (.inl (.inl rfl)) _).setCell (p:=⟨g2,0,none⟩) (.inl (.inr (.inl rfl))) _).setCell (p:=⟨g3,0,none⟩) (.inl (.inr (.inr rfl))) _).drew⟩
theorem zkd {k:Nat} {l l1:List Lx.Tk} {o:Sc.Op} (h:Sc.restOf k l = .ok (o,l1)):o.kind = k:=by
 unfold Sc.restOf at h
 repeat' split at h
 all_goals (first | (cases h; done) | (injection h with h; injection h with h1 h2; subst h1; first | rfl | exact Eq.symm (by assumption)))
theorem znl {vals:List Sc.Op} {m n k:Nat} {l:List Lx.Tk} {ops:List Sc.Op} (hm:1≤m) (h:Sc.preO vals (Sc.parseOf m n l) = .ok ops) (hk:(Sc.hd l).kind ≠ 0) (hn:n ≠ 100) (hkk:Sc.kindOf l = some k):∃ o ∈ ops,o.kind = k:=by
 obtain ⟨f,rfl⟩:∃ f,m = f + 1:=⟨m - 1,by omega⟩
 unfold Sc.parseOf at h
 rw [if_neg hk,if_neg hn,hkk] at h
 dsimp only at h
 rcases hr:Sc.restOf k l.tail with e | ⟨o,l1⟩
 ·rw [hr] at h; cases h
 ·rw [hr] at h
  dsimp only at h
  rcases hmu:Sc.must 5 [59] l1 with e | ⟨t,l2⟩
  ·rw [hmu] at h; cases h
  ·rw [hmu] at h
   dsimp only at h
   rcases hp:Sc.parseOf f (n + 1) l2 with e | r
   ·rw [hp] at h; cases h
   ·rw [hp] at h
    have e:vals ++ ({ o with pos:=(Sc.hd l).pos } :: r) = ops:=by injection h
    rw [← e]
    exact ⟨_,List.mem_append.2 (.inr (List.mem_cons.2 (.inl rfl))),(show o.kind = k from zkd hr)⟩
end Go.Proofs.YtlpdfglbdijkoaaGreatDoor