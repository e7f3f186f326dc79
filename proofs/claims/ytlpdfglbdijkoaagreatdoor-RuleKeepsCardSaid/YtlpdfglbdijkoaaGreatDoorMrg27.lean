/-
  Own texts, several in one (Raw13b, Raw13c, In13, Law13b).
-/
import Derived.Test.YtlpdfglbdijkoaaGreatDoorMrg26
import Derived.Test.YtlpdfglbdijkoaaGreatDoorMrg23
import Derived.OpenShut
import Derived.Lib.SmallJoins
namespace Go.Proofs.YtlpdfglbdijkoaaGreatDoor
open Go.RowKit
set_option linter.unusedVariables false
set_option linter.unusedSimpArgs false
namespace Sc
def rawPts (x:O) (k:Nat):List (Nat × Nat):=(1 + x.b,1) :: (x.parts.take (min k 7)).map rawPt
theorem rawPts_lt (x:O) (k:Nat) (hk:k < x.parts.length) (h7:k < 7):rawPts x (k + 1) = rawPts x k ++ [rawPt (x.parts.getD k (0,0))]:=by
 unfold rawPts
 rw [show min (k + 1) 7 = k + 1 by omega,show min k 7 = k by omega,List.take_succ_eq_append_getElem hk,List.map_append,List.getD_eq_getElem?_getD,List.getElem?_eq_getElem hk]
 rfl
theorem rawPts_ge (x:O) (k:Nat) (h7:7≤k):rawPts x (k + 1) = rawPts x k:=by
 unfold rawPts
 rw [show min (k + 1) 7 = 7 by omega,show min k 7 = 7 by omega]
theorem rawPts_all (x:O):rawPts x x.parts.length = (raw4 x).parts:=by
 show (1 + x.b,1) :: (x.parts.take (min x.parts.length 7)).map rawPt = (1 + x.b,1) :: (x.parts.take 7).map rawPt
 rcases Nat.le_total x.parts.length 7 with h | h
 ·rw [Nat.min_eq_left h,List.take_length,List.take_of_length_le h]
 ·rw [Nat.min_eq_right h]
end Sc
set_option maxHeartbeats 8000000 in
set_option maxRecDepth 100000 in
theorem zlq (x:Sc.O) (hx:x.ok) (vp vl:Value) (w:World) (hP:PosAt w vp x.parts) (hL:NsAt .u8 w vl x.long) (hk:x.kind % 8 = 4) :
  Calls Tryz.prog 21 #[.agg (ov x vp vl).toArray] w fun e w'=>∃ v1,e = .returned (.agg (opc (Sc.raw4 x) v1 (.slice none 0 0)).toArray)∧w'.ownsRow w.heap.size 89 2 v1 (Sc.raw4 x).parts.length ((Sc.raw4 x).parts.flatMap ptv)∧Below w.heap.size w w':=by
 have HX:=hdq hx
 have ha:=hx.a
 have hb:=hx.b
 have m0:((x.kind:Int)).tmod 8 = 4:=by
  rw [Int.tmod_eq_emod_of_nonneg (by omega)]; omega
 have e3:IntKind.u32.wrap (x.a:Int) = x.a:=by rw [IntKind.wrap_u32]; omega
 have e4:IntKind.u32.wrap (1 + (x.a:Int)) = 1 + x.a:=by rw [IntKind.wrap_u32]; omega
 have e5:IntKind.u32.wrap (x.b:Int) = x.b:=by rw [IntKind.wrap_u32]; omega
 have e6:IntKind.u32.wrap (1 + (x.b:Int)) = 1 + x.b:=by rw [IntKind.wrap_u32]; omega
 have HP:=hdq hP
 have HL:=hdq hL
 obtain ⟨pl,cl,rfl,hE⟩:=hP
 have HE:=hdq hE
 clear hx ha hb hE hL hk HP
 unfold ov
 go_enter Tryz.func21,Tryz.ntmps21
 go_wp2_with (first
  | (refine zjk (N:=1) rfl rfl 31 (Operand.tmp 0) rfl #[.int .u8 (x.kind:Int),.int .u8 (x.a:Int),.int .u8 (x.b:Int),.int .u8 (x.nm:Int),(.slice pl x.parts.length cl),.int .i16 x.first,vl] rfl ?_; intro g0 w1 hg0 RB B1)
  | (refine zal (N:=2) rfl rfl 47 rfl #[.int .i64 0,.int .u32 0,.int .u32 0,.string ByteArray.empty,.slice none 0 0,.slice none 0 0,.int .i32 0,.int .i64 0] (fun w=>by kernel_rfl) ?_; intro gr w2 hgr RR B2; have RB2:=RB.below B2; have d0:w2.cell? ⟨g0,0,none⟩ = some (.int .u8 (x.kind:Int)):=RB2.cell 0; have d1:w2.cell? ⟨g0,1,none⟩ = some (.int .u8 (x.a:Int)):=RB2.cell 1)
  | (refine zal (N:=3) rfl rfl 47 rfl #[.int .i64 0,.int .u32 0,.int .u32 0,.string ByteArray.empty,.slice none 0 0,.slice none 0 0,.int .i32 0,.int .i64 0] (fun w=>by kernel_rfl) ?_; intro gx w3 hgx RX B3)
  | (refine zad rfl 47 (Operand.tmp 3) (Operand.tmp 14) rfl gx #[.int .i64 4,.int .u32 (1 + (x.a:Int)),.int .u32 0,.string ByteArray.empty,.slice none 0 0,.slice none 0 0,.int .i32 0,.int .i64 0] rfl rfl RX (by kernel_rfl) rfl (by simp [Value.oneCell']) rfl ?_; intro w4 RX4 S4; have hl0:=RB.lt; have hl1:=RR.lt; have RB4:=(RB2.below B3).stored S4 (by omega); have RR4:=(RR.below B3).stored S4 (by omega); have BB4:=S4.below (zab (zab B1 B2) B3) (by have:=B1.size; have:=B2.size; omega); have d2:w4.cell? ⟨g0,2,none⟩ = some (.int .u8 (x.b:Int)):=RB4.cell 2; have d3:w4.cell? ⟨g0,3,none⟩ = some (.int .u8 (x.nm:Int)):=RB4.cell 3; have d4:w4.cell? ⟨g0,4,none⟩ = some (.slice pl x.parts.length cl):=RB4.cell 4; have d5:w4.cell? ⟨g0,5,none⟩ = some (.int .i16 x.first):=RB4.cell 5; have d6:w4.cell? ⟨g0,6,none⟩ = some vl:=RB4.cell 6; have f0:w4.cell? ⟨gx,0,none⟩ = some (.int .i64 4):=RX4.cell 0; have f1:w4.cell? ⟨gx,1,none⟩ = some (.int .u32 (1 + (x.a:Int))):=RX4.cell 1; have f2:w4.cell? ⟨gx,2,none⟩ = some (.int .u32 0):=RX4.cell 2; have f3:w4.cell? ⟨gx,3,none⟩ = some (.string ByteArray.empty):=RX4.cell 3; have f4:w4.cell? ⟨gx,4,none⟩ = some (.slice none 0 0):=RX4.cell 4; have f5:w4.cell? ⟨gx,5,none⟩ = some (.slice none 0 0):=RX4.cell 5; have f6:w4.cell? ⟨gx,6,none⟩ = some (.int .i32 0):=RX4.cell 6; have z1:w4.frozen? ⟨gx,1,none⟩ = false:=RX4.frozen 1; have z2:w4.frozen? ⟨gx,2,none⟩ = false:=RX4.frozen 2; have z3:w4.frozen? ⟨gx,3,none⟩ = false:=RX4.frozen 3; have z4:w4.frozen? ⟨gx,4,none⟩ = false:=RX4.frozen 4; have z5:w4.frozen? ⟨gx,5,none⟩ = false:=RX4.frozen 5; have z6:w4.frozen? ⟨gx,6,none⟩ = false:=RX4.frozen 6; have h0x:g0 ≠ gx:=(by omega); have f4a:(w4.alloc (.cells #[.int .u32 (1 + (x.b:Int)),.int .i64 1] 89)).cell? ⟨gx,4,none⟩ = some (.slice none 0 0):=(RX4.alloc _).cell 4; have z4a:(w4.alloc (.cells #[.int .u32 (1 + (x.b:Int)),.int .i64 1] 89)).frozen? ⟨gx,4,none⟩ = false:=(RX4.alloc _).frozen 4; have d4a:((w4.alloc (.cells #[.int .u32 (1 + (x.b:Int)),.int .i64 1] 89)).setCell ⟨gx,4,none⟩ (.slice (some ⟨w4.heap.size,0,none⟩) 1 1)).cell? ⟨g0,4,none⟩ = some (.slice pl x.parts.length cl):=((RB4.alloc _).other ⟨gx,4,none⟩ h0x _).cell 4))
 have hxr:gr ≠ gx:=by omega
 have RN:=Row.new w4 #[.int .u32 (1 + (x.b:Int)),.int .i64 1] 89
 have BN:=zaa BB4 (.cells #[.int .u32 (1 + (x.b:Int)),.int .i64 1] 89)
 have hst:=zaf (w4.alloc (.cells #[.int .u32 (1 + (x.b:Int)),.int .i64 1] 89)) gx 4 (.slice (some ⟨w4.heap.size,0,none⟩) 1 1)
 have HGX:=hdq (show w.heap.size≤gx∧w.heap.size≤gr∧gr ≠ gx∧w.heap.size≤w4.heap.size by
  have:=B1.size; have:=B2.size; have:=BB4.size; omega)
 have RXB:Row ((w4.alloc (.cells #[.int .u32 (1 + (x.b:Int)),.int .i64 1] 89)).setCell ⟨gx,4,none⟩ (.slice (some ⟨w4.heap.size,0,none⟩) 1 1)) gx #[.int .i64 4,.int .u32 (1 + (x.a:Int)),.int .u32 0,.string ByteArray.empty,(.slice (some ⟨w4.heap.size,0,none⟩) 1 1),.slice none 0 0,.int .i32 0,.int .i64 0] 47:=(RX4.alloc _).set 4 _
 have RRB:=(RR4.alloc (.cells #[.int .u32 (1 + (x.b:Int)),.int .i64 1] 89)).other ⟨gx,4,none⟩ hxr (.slice (some ⟨w4.heap.size,0,none⟩) 1 1)
 have BBB:=hst.below BN HGX.out.1
 have hgw:gx < w4.heap.size:=RX4.lt
 have OWB:((w4.alloc (.cells #[.int .u32 (1 + (x.b:Int)),.int .i64 1] 89)).setCell ⟨gx,4,none⟩ (.slice (some ⟨w4.heap.size,0,none⟩) 1 1)).ownsRow w.heap.size 89 2 (.slice (some ⟨w4.heap.size,0,none⟩) 1 1) (0 + 1) ((Sc.rawPts x 0).flatMap ptv):=by
  refine zak (g:=gx) ?_ hst ?_
  ·refine ⟨?_,.inr ⟨_,1,_,rfl,HGX.out.2.2.2,RN,Nat.le_refl _,by unfold maxLen; omega,rfl,?_⟩⟩
   ·simp [Sc.rawPts,ptv]
   ·simp [Sc.rawPts,ptv]
  ·simp [Value.ownBlock]
   omega
 have HRX:=hdq RXB
 have HRR:=hdq RRB
 have HBB:=hdq BBB
 have HOW:=hdq OWB
 clear RN BN hst RXB RRB BBB OWB hgw
 go_loopw [40] (fun iv wr=>∃ (k:Nat) (v:Value),k≤x.parts.length∧iv = .int .i64 (k:Int)∧wr.ownsRow w.heap.size 89 2 v (min k 7 + 1) ((Sc.rawPts x k).flatMap ptv)∧Row wr gx #[.int .i64 4,.int .u32 (1 + (x.a:Int)),.int .u32 0,.string ByteArray.empty,v,.slice none 0 0,.int .i32 0,.int .i64 0] 47∧Row wr gr #[.int .i64 0,.int .u32 0,.int .u32 0,.string ByteArray.empty,.slice none 0 0,.slice none 0 0,.int .i32 0,.int .i64 0] 47∧Below w.heap.size w wr) (fun iv _=>x.parts.length - (intOf iv).toNat)
 case atStart=>exact ⟨0,(.slice (some ⟨w4.heap.size,0,none⟩) 1 1),by omega,rfl,HOW.out,HRX.out,HRR.out,HBB.out⟩
 case round =>
  obtain ⟨k,v,hk,rfl,hown,RX,RR',BB⟩:=hrel
  have HOW2:=hdq hown
  have HRX2:=hdq RX
  have HRR2:=hdq RR'
  have HB2:=hdq BB
  have hpl:=HX.out.plen
  clear hown RX RR' BB
  by_cases hlt:k < x.parts.length
  ·have i0:(0:Int)≤(k:Int):=by omega
   have i1:(k:Int) < (x.parts.length:Int):=by omega
   obtain ⟨b,off,rfl,hcc⟩:∃ b off,pl = some ⟨b,off,none⟩∧∀ i,i < x.parts.length→w.rangeAt b (off + i * 2) (pov (x.parts.getD i (0,0))):=by
    rcases HE.out with h | h
    ·rw [h] at hlt; simp at hlt
    ·exact h
   have ck:=zah (hcc k hlt) HB2.out
   have hq:=HX.out.parts _ (zay (d:=((0:Nat),(0:Nat))) hlt)
   have hms:=Sc.rawPts_lt x k hlt
   obtain ⟨q,hqq⟩:∃ q,q = x.parts.getD k (0,0):=⟨_,rfl⟩
   rw [← hqq] at ck hq hms
   have c0:wr.cell? ⟨b,off + k * 2,none⟩ = some (.int .u8 (q.1:Int)):=ck 0 _ rfl
   have c1:wr.cell? ⟨b,off + k * 2 + 1,none⟩ = some (.int .u32 (q.2:Int)):=ck 1 _ rfl
   have e9:IntKind.i64.wrap ((k:Int) + 1) = (k:Int) + 1:=by rw [IntKind.wrap_i64]; omega
   have BA:=zaa HB2.out (.cells #[.int .u8 (q.1:Int),.int .u32 (q.2:Int)] 103)
   have RXA:=HRX2.out.alloc (.cells #[.int .u8 (q.1:Int),.int .u32 (q.2:Int)] 103)
   have RRA:=HRR2.out.alloc (.cells #[.int .u8 (q.1:Int),.int .u32 (q.2:Int)] 103)
   have OWA:=zan HOW2.out (.cells #[.int .u8 (q.1:Int),.int .u32 (q.2:Int)] 103)
   by_cases h7:k < 7
   ·have j7:(k:Int) < 7:=by omega
    have hms:=hms h7
    have HMS:=hdq hms
    have a1:IntKind.u32.wrap (q.1:Int) = q.1:=by rw [IntKind.wrap_u32]; omega
    have a2:IntKind.u32.wrap (1 + (q.1:Int)) = 1 + q.1:=by rw [IntKind.wrap_u32]; omega
    have a3:((q.2:Int)).tmod 1000000 = ((q.2 % 1000000:Nat):Int):=by
     rw [Int.tmod_eq_emod_of_nonneg (by omega)]; rfl
    obtain ⟨m,hm⟩:∃ m,m = q.2 % 1000000:=⟨_,rfl⟩
    have hm6:m < 1000000:=by omega
    rw [← hm] at a3
    have a4:IntKind.u32.wrap (m:Int) = m:=by rw [IntKind.wrap_u32]; omega
    have a5:IntKind.i64.wrap (m:Int) = m:=by rw [IntKind.wrap_i64]; omega
    have a6:IntKind.i64.wrap (1 + (m:Int)) = 1 + m:=by rw [IntKind.wrap_i64]; omega
    have RZ5:=Row.new (wr.alloc (.cells #[.int .u8 (q.1:Int),.int .u32 (q.2:Int)] 103)) #[.int .u32 (1 + (q.1:Int)),.int .i64 (1 + (m:Int))] 89
    have hsz:(wr.alloc (.cells #[.int .u8 (q.1:Int),.int .u32 (q.2:Int)] 103)).heap.size = wr.heap.size + 1:=by simp
    rw [hsz] at RZ5
    have BZ:=zaa BA (.cells #[.int .u32 (1 + (q.1:Int)),.int .i64 (1 + (m:Int))] 89)
    have RXZ:=RXA.alloc (.cells #[.int .u32 (1 + (q.1:Int)),.int .i64 (1 + (m:Int))] 89)
    have RRZ:=RRA.alloc (.cells #[.int .u32 (1 + (q.1:Int)),.int .i64 (1 + (m:Int))] 89)
    have g4:(wr.alloc (.cells #[.int .u8 (q.1:Int),.int .u32 (q.2:Int)] 103)).cell? ⟨gx,4,none⟩ = some v:=RXA.cell 4
    obtain ⟨v6,w6,hr6,ho6,hb6,hk6⟩:=zsi _ w.heap.size 45 v (min k 7 + 1) (Sc.rawPts x k) (zan OWA (.cells #[.int .u32 (1 + (q.1:Int)),.int .i64 (1 + (m:Int))] 89)) (wr.heap.size + 1) (1 + q.1,1 + m) RZ5 (by omega) BZ.size
    obtain ⟨p6,c6,rfl⟩:=zaj ho6
    have RC6:=hk6 gx _ _ RXZ (by show ¬ (47:Nat) = 89; omega)
    have RR6:=hk6 gr _ _ RRZ (by show ¬ (47:Nat) = 89; omega)
    have f0:w6.cell? ⟨gx,4,none⟩ = some v:=RC6.cell 4
    have z0:w6.frozen? ⟨gx,4,none⟩ = false:=RC6.frozen 4
    have HRC7:=hdq (RC6.set 4 (.slice p6 (min k 7 + 1 + 1) c6))
    have HRR7:=hdq (RR6.other ⟨gx,4,none⟩ HGX.out.2.2.1 (.slice p6 (min k 7 + 1 + 1) c6))
    have hnc:(Value.slice p6 (min k 7 + 1 + 1) c6).ownBlock ≠ some gx:=fun e=>by
     obtain ⟨cs2,h⟩:=zbg ho6 e
     have h2:=h.symm.trans RC6
     simp at h2
    have HO7:=hdq (zak ho6 (zaf w6 gx 4 (.slice p6 (min k 7 + 1 + 1) c6)) hnc)
    have HB7:=hdq ((zaf w6 gx 4 (.slice p6 (min k 7 + 1 + 1) c6)).below (BZ.trans hb6) HGX.out.1)
    have HR6:=hdq hr6
    have HI:=hdq (And.intro hlt h7)
    have HM:=hdq hm
    clear hr6 ho6 hb6 hk6 RC6 RR6 hnc hlt hk hcc ck hq hqq hms BA RXA RRA OWA BZ RXZ RRZ RZ5 hm hm6 hsz h7
    go_wp2_with (first | (at_builtin; refine zbn rfl (zao _ _ _ _ rfl rfl rfl HR6.out) ?_))
    refine ⟨⟨k + 1,.slice p6 (min k 7 + 1 + 1) c6,by have:=HI.out; omega,by simp,?_,HRC7.out,HRR7.out,HB7.out⟩,by have:=HI.out; simp [intOf]; omega⟩
    rw [HMS.out,show min (k + 1) 7 + 1 = min k 7 + 1 + 1 by have:=HI.out; omega]
    have:=HO7.out
    rw [HM.out] at this
    exact this
   ·have j7:¬ (k:Int) < 7:=by omega
    have hms:=Sc.rawPts_ge x k (by omega)
    have HMS:=hdq hms
    have HI:=hdq (And.intro hlt h7)
    have HBA:=hdq BA
    have HXA:=hdq RXA
    have HRA:=hdq RRA
    have HOA:=hdq OWA
    clear hlt hk hcc ck hq hqq hms BA RXA RRA OWA h7
    go_wp2_with fail
    refine ⟨⟨k + 1,v,by have:=HI.out; omega,by simp,?_,HXA.out,HRA.out,HBA.out⟩,by have:=HI.out; simp [intOf]; omega⟩
    rw [HMS.out,show min (k + 1) 7 + 1 = min k 7 + 1 by have:=HI.out; omega]
    exact HOA.out
  ·have i1:¬ (k:Int) < (x.parts.length:Int):=by omega
   obtain rfl:k = x.parts.length:=by omega
   obtain ⟨pv,cv,rfl⟩:=zaj HOW2.out
   have RS:=HRX2.out
   have RRS:=HRR2.out
   clear hlt hk
   go_wp2_with (first
    | (refine zaq (N:=78) rfl rfl 47 (Operand.tmp 3) rfl gx rfl RS _ Tryz.underlying47 rfl (by kernel_rfl) ?_) | (refine zad rfl 47 (Operand.tmp 2) (Operand.tmp 78) rfl gr #[.int .i64 4,.int .u32 (1 + (x.a:Int)),.int .u32 0,.string ByteArray.empty,(.slice pv (min x.parts.length 7 + 1) cv),.slice none 0 0,.int .i32 0,.int .i64 0] rfl rfl RRS (by kernel_rfl) rfl (by kernel_rfl) rfl ?_; intro w9 RZ S9))
   have hno:(Value.slice pv (min x.parts.length 7 + 1) cv).ownBlock ≠ some gr:=fun e=>by
    obtain ⟨cs2,h⟩:=zbg HOW2.out e
    have h2:=h.symm.trans RRS
    simp at h2
   obtain ⟨hll,p9,c9,hv9,hE9⟩:=zcw ptv 2 (0,0) (fun _=>rfl) (by omega) (zak HOW2.out S9 hno)
   refine bodyPost_ret (v:=.agg #[.int .i64 4,.int .u32 (1 + (x.a:Int)),.int .u32 0,.string ByteArray.empty,(.slice pv (min x.parts.length 7 + 1) cv),.slice none 0 0,.int .i32 0,.int .i64 0]) (zau rfl _ _ RZ rfl Tryz.underlying47 rfl (by kernel_rfl)) rfl ⟨.slice pv (min x.parts.length 7 + 1) cv,rfl,?_,S9.below HB2.out HGX.out.2.1⟩
   have ho9:=zak HOW2.out S9 hno
   rw [Sc.rawPts_all x] at ho9
   rw [show (Sc.raw4 x).parts.length = min x.parts.length 7 + 1 by show ((1 + x.b,1) :: (x.parts.take 7).map Sc.rawPt).length = _; rw [List.length_cons,List.length_map,List.length_take]; omega]
   exact ho9
theorem raw13_4 (x:Sc.O) (hx:x.ok) (vp vl:Value) (w:World) (hP:PosAt w vp x.parts) (hL:NsAt .u8 w vl x.long) (hk:x.kind % 8 = 4) :
  Calls Tryz.prog 21 #[.agg (ov x vp vl).toArray] w fun e w'=>∃ v1 v2,e = .returned (.agg (opc (Sc.raw4 x) v1 v2).toArray)∧PtsAt w' v1 (Sc.raw4 x).parts∧NsAt .i32 w' v2 (Sc.raw4 x).starts∧Fresh w w' v1∧Fresh w w' v2∧Below w.heap.size w w':=by
 refine (zlq x hx vp vl w hP hL hk).mono ?_
 rintro _ w' ⟨v1,rfl,ho,hb⟩
 obtain ⟨_,p9,c9,hv9,hE9⟩:=zcw ptv 2 (0,0) (fun _=>rfl) (by omega) ho
 exact ⟨v1,_,rfl,⟨p9,c9,hv9,hE9⟩,zix _ _,zjh ho (Nat.le_refl _),zby _ _,hb⟩
theorem zdx (x:Sc.O) (hx:x.ok) (vp vl:Value) (w:World) (hP:PosAt w vp x.parts) (hL:NsAt .u8 w vl x.long) :
  Calls Tryz.prog 21 #[.agg (ov x vp vl).toArray] w fun e w'=>∃ v1 v2,e = .returned (.agg (opc (Sc.raw x) v1 v2).toArray)∧PtsAt w' v1 (Sc.raw x).parts∧NsAt .i32 w' v2 (Sc.raw x).starts∧Fresh w w' v1∧Fresh w w' v2∧Below w.heap.size w w':=by
 unfold Sc.raw
 by_cases h1:x.kind % 8 = 1
 ·rw [if_pos h1]; exact raw13_1 x hx vp vl w hP hL h1
 ·rw [if_neg h1]
  by_cases h4:x.kind % 8 = 4
  ·rw [if_pos h4]; exact raw13_4 x hx vp vl w hP hL h4
  ·rw [if_neg h4]
   by_cases h7:x.kind % 8 = 7
   ·rw [if_pos h7]; exact raw13_7 x hx vp vl w hP hL h7
   ·rw [if_neg h7]
    by_cases h2:x.kind % 8 = 2
    ·rw [if_pos h2]; exact raw13_2 x hx vp vl w hP hL h2
    ·rw [if_neg h2]; exact raw13_0 x hx vp vl w hP hL _ rfl h1 h4 h7 h2
namespace Sc
theorem zqs (n:Nat):name6 n ∈ names6:=by
 unfold name6
 exact zay (show n % 5 < names6.length by show n % 5 < 5; omega)
theorem name6_len (n:Nat):(name6 n).length≤30:=by
 have h:∀ x ∈ names6,x.length≤30:=by decide
 exact h _ (zqs n)
theorem raw_can (x:O) (hx:x.ok):(raw x).can:=by
 have ha:=hx.a
 have hb:=hx.b
 unfold raw
 split
 ·exact ⟨by show 1 < 8; omega,by show 1 + x.a≤_; omega,by show 0≤_; omega,by show (name6 x.nm).length≤_; have:=name6_len x.nm; omega,⟨fun h=>(by cases h),by show 0≤100; omega,fun p hp=>by cases hp⟩,by show 0≤100; omega,by show 0≤_; omega⟩
 ·split
  ·refine ⟨by show 4 < 8; omega,by show 1 + x.a≤_; omega,by show 0≤_; omega,by show 0≤_; omega,⟨fun _=>by show 0 < ((1 + x.b,1) :: (x.parts.take 7).map rawPt).length; rw [List.length_cons]; omega,?_,?_⟩,by show 0≤100; omega,by show 0≤_; omega⟩
   ·show ((1 + x.b,1) :: (x.parts.take 7).map rawPt).length≤100
    rw [List.length_cons,List.length_map,List.length_take]
    omega
   ·intro p hp
    have hp:p ∈ (1 + x.b,1) :: (x.parts.take 7).map rawPt:=hp
    rcases List.mem_cons.1 hp with rfl | hp
    ·exact ⟨by show 1 + x.b≤_; omega,by show 1≤_; omega⟩
    ·obtain ⟨q,hq,rfl⟩:=List.mem_map.1 hp
     have:=hx.parts q (List.mem_of_mem_take hq)
     exact ⟨by show 1 + q.1≤_; omega,by show 1 + q.2 % 1000000≤_; omega⟩
  ·split
   ·refine ⟨by show 7 < 8; omega,by show 0≤_; omega,by show 0≤_; omega,by show 0≤_; omega,⟨fun h=>(by cases h),by show 0≤100; omega,fun p hp=>by cases hp⟩,?_,by show 0≤_; omega⟩
    show (mkStarts x.first x.long (min x.long.length 12)).length≤100
    unfold mkStarts
    rw [List.length_map,List.length_range]
    omega
   ·split
    ·exact ⟨by show 2 < 8; omega,by show 1 + x.a≤_; omega,by show x.b≤_; omega,by show 0≤_; omega,⟨fun h=>(by cases h),by show 0≤100; omega,fun p hp=>by cases hp⟩,by show 0≤100; omega,by show 0≤_; omega⟩
    ·rename_i h1 h4 h7 h2
     exact ⟨by show x.kind % 8 < 8; omega,by show 1 + x.a≤_; omega,by show 1 + x.b≤_; omega,by show 0≤_; omega,⟨fun h=>absurd h h4,by show 0≤100; omega,fun p hp=>by cases hp⟩,by show 0≤100; omega,by show 0≤_; omega⟩
end Sc
open Go.RowKit Go.ChangeShapes Go.WideShapes
def ovE (e:Sc.O × Value × Value):List Value:=ov e.1 e.2.1 e.2.2
def okO (W:World) (e:Sc.O × Value × Value):Prop:=e.1.ok∧PosAt W e.2.1 e.1.parts∧NsAt .u8 W e.2.2 e.1.long
def o0:Sc.O × Value × Value:=(⟨0,0,0,0,[],0,[]⟩,.slice none 0 0,.slice none 0 0)
theorem list2o {α:Type} {l:List α} (h:l.length = 2):∃ a b,l = [a,b]:=by
 match l,h with
 | [a,b],_=>exact ⟨a,b,rfl⟩
theorem list7o {α:Type} {l:List α} (h:l.length = 7):∃ a b c d e f g,l = [a,b,c,d,e,f,g]:=by
 match l,h with
 | [a,b,c,d,e,f,g],_=>exact ⟨a,b,c,d,e,f,g,rfl⟩
section
variable {H:Type} {enc:TypeId × Value→H} {P:Program} {W:World} {base:Nat} {sp:Nat→Bool} {held:Bool}
theorem zqh {E:Type} (f:E→List Value) (sz:Nat) (d:E) (ok:E→Prop) {t e:TypeId} (ht:P.underlying t = some (.slice e)) (hsz:P.cellsOf e = sz) (hpos:0 < sz) (hlen:∀ x,(f x).length = sz)
  (hrd:∀ n cs y,DataW.trod enc P W base sp held n e cs = some y→∃ x,ok x∧cs = f x)
  {a:Option Addr} {len cap:Nat} {d0:DataW H} {ps:List MemPlace} (h:DataW.Trod enc P W base sp held t (.slice a len cap) d0 ps) :
  ∃ l:List E,l.length = len∧(∀ x ∈ l,ok x)∧ElsAt f sz d W a l∧len≤cap∧cap≤maxLen:=by
 obtain ⟨fuel,hf⟩:=h
 rcases Deep.open_slice ht hf with ⟨h1,_⟩ | ⟨a',len',cap',m,n,D,Pl,h1,hb,hl,hm,hmm,_,hx⟩
 ·simp [Value.cells] at h1
  obtain ⟨rfl,rfl,rfl⟩:=h1
  exact ⟨[],rfl,by simp,.inl rfl,Nat.le_refl _,Nat.zero_le _⟩
 ·simp [Value.cells] at h1
  obtain ⟨rfl,rfl,rfl⟩:=h1
  have hlm:len≤m:=by rw [hmm]; split <;> omega
  obtain ⟨q,hq⟩:=Deep.choose_lt (n:=len) (α:=Option E) (p:=fun i x=>∃ y,x = some y∧ok y∧∀ j v,(f y)[j]? = some v→W.cell? ((a'.add (i * sz)).add j) = some v) (fun i hi=>by
   obtain ⟨cs',h1,h2⟩:=hx i (by omega)
   obtain ⟨y,hy,rfl⟩:=hrd _ _ _ h2
   rw [hsz] at h1
   obtain ⟨_,hlen2,hcell⟩:=World.cells?_some h1
   refine ⟨some y,y,rfl,hy,fun j v hv=>?_⟩
   have hj:j < sz:=by
    by_cases c:j < sz
    ·exact c
    ·rw [List.getElem?_eq_none (by rw [hlen]; omega)] at hv; cases hv
   rw [hcell j hj,hv])
  have hg:∀ i,i < len→((List.range len).map fun i=>(q i).getD d).getD i d = (q i).getD d:=fun i hi=>by
   rw [List.getD_eq_getElem?_getD,List.getElem?_map,List.getElem?_range hi]
   rfl
  refine ⟨(List.range len).map fun i=>(q i).getD d,by simp,?_,?_,hl,hm⟩
  ·intro x hx
   obtain ⟨i,hi,rfl⟩:=List.mem_map.1 hx
   obtain ⟨y,e,hy,_⟩:=hq i (List.mem_range.1 hi)
   rw [e]
   exact hy
  ·by_cases h0:len = 0
   ·left
    rw [h0]
    rfl
   ·right
    obtain ⟨b,off,spot⟩:=a'
    obtain ⟨y0,e0,_,h00⟩:=hq 0 (by omega)
    obtain ⟨v0,hv0⟩:∃ v,(f y0)[0]? = some v:=⟨_,List.getElem?_eq_getElem (by rw [hlen]; exact hpos)⟩
    have h00:=h00 0 v0 hv0
    have hs:spot = none:=by
     cases spot with
     | none=>rfl
     | some k =>
      simp only [World.cell?,Addr.add,Nat.zero_mul] at h00
      split at h00 <;> simp at h00
    subst hs
    refine ⟨b,off,rfl,fun i hi j v hv=>?_⟩
    have hi:i < len:=by simpa using hi
    rw [hg i hi] at hv
    obtain ⟨y,e,_,h3⟩:=hq i hi
    rw [e] at hv
    have h4:=h3 j v hv
    rw [Addr.add_mid,Addr.add_mid] at h4
    exact h4
theorem zcd {E:Type} (f:E→List Value) (sz:Nat) (d:E) (ok:E→Prop) {t e:TypeId} (ht:P.underlying t = some (.slice e)) (hsz:P.cellsOf e = sz) (hpos:0 < sz) (hlen:∀ x,(f x).length = sz)
  (hrd:∀ n cs y,DataW.trod enc P W base sp held n e cs = some y→∃ x,ok x∧cs = f x)
  {n:Nat} {cs:List Value} {y:DataW H × List MemPlace} (h:DataW.trod enc P W base sp held n t cs = some y) :
  ∃ a cap,∃ l:List E,cs = [.slice a l.length cap]∧(∀ x ∈ l,ok x)∧ElsAt f sz d W a l∧l.length≤cap∧cap≤maxLen:=by
 have hc:∃ a len cap,cs = [.slice a len cap]:=by
  rcases Deep.open_slice ht h with ⟨h1,_⟩ | ⟨a',len',cap',m,n,D,Pl,h1,_⟩
  ·exact ⟨none,0,0,h1⟩
  ·exact ⟨_,_,_,h1⟩
 obtain ⟨a,len,cap,rfl⟩:=hc
 obtain ⟨l,h1,h2,h3,h4,h5⟩:=zqh f sz d ok ht hsz hpos hlen hrd (a:=a) (len:=len) (cap:=cap) (d0:=y.1) (ps:=y.2) ⟨n,h⟩
 subst h1
 exact ⟨a,cap,l,rfl,h2,h3,h4,h5⟩
theorem rd_p (n:Nat) (cs:List Value) (y:DataW H × List MemPlace) (h:DataW.trod enc Tryz.prog W base sp held n 103 cs = some y):∃ x:Nat × Nat,(x.1≤255∧x.2≤4294967295)∧cs = pov x:=by
 have c0:Tryz.prog.cellsOf 103 = 2:=by kernel_rfl
 have c1:Tryz.prog.cellsOf 5 = 1:=by kernel_rfl
 have c2:Tryz.prog.cellsOf 44 = 1:=by kernel_rfl
 obtain ⟨xs,m,_,_,hl,hx,hf⟩:=DataW.trod_struct Tryz.underlying103 h
 rw [c0] at hl
 obtain ⟨x0,x1,rfl⟩:=list2o hl
 have g0:=hf 0 _ rfl
 have g1:=hf 1 _ rfl
 simp [c1,c2] at g0 g1
 obtain ⟨y0,y1,rfl⟩:=list2o hx
 simp at g0 g1
 obtain ⟨z0,e0,_,b0⟩:=DataW.trod_int Tryz.underlying5 g0
 obtain ⟨z1,e1,_,b1⟩:=DataW.trod_int Tryz.underlying44 g1
 simp at e0 e1
 subst e0
 subst e1
 have b0:=Go.bounds_u8 b0
 have b1:=Go.bounds_u32 b1
 refine ⟨(z0.toNat,z1.toNat),by simp; omega,?_⟩
 unfold pov
 rw [show ((z0.toNat:Nat):Int) = z0 by omega,show ((z1.toNat:Nat):Int) = z1 by omega]
theorem zef (n:Nat) (cs:List Value) (y:DataW H × List MemPlace) (h:DataW.trod enc Tryz.prog W base sp held n 5 cs = some y):∃ x:Int,(0≤x∧x≤255)∧cs = [.int .u8 x]:=by
 obtain ⟨z0,e0,_,b0⟩:=DataW.trod_int Tryz.underlying5 h
 have b0:=Go.bounds_u8 b0
 exact ⟨z0,by omega,e0⟩
theorem rd_o (n:Nat) (cs:List Value) (y:DataW H × List MemPlace) (h:DataW.trod enc Tryz.prog W base sp held n 31 cs = some y):∃ x,okO W x∧cs = ovE x:=by
 have c0:Tryz.prog.cellsOf 31 = 7:=by kernel_rfl
 have c1:Tryz.prog.cellsOf 5 = 1:=by kernel_rfl
 have c2:Tryz.prog.cellsOf 29 = 1:=by kernel_rfl
 have c3:Tryz.prog.cellsOf 24 = 1:=by kernel_rfl
 have c4:Tryz.prog.cellsOf 25 = 1:=by kernel_rfl
 obtain ⟨xs,m,_,_,hl,hx,hf⟩:=DataW.trod_struct Tryz.underlying31 h
 rw [c0] at hl
 obtain ⟨x0,x1,x2,x3,x4,x5,x6,rfl⟩:=list7o hl
 have g0:=hf 0 _ rfl
 have g1:=hf 1 _ rfl
 have g2:=hf 2 _ rfl
 have g3:=hf 3 _ rfl
 have g4:=hf 4 _ rfl
 have g5:=hf 5 _ rfl
 have g6:=hf 6 _ rfl
 simp [c1,c2,c3,c4] at g0 g1 g2 g3 g4 g5 g6
 obtain ⟨y0,y1,y2,y3,y4,y5,y6,rfl⟩:=list7o hx
 simp at g0 g1 g2 g3 g4 g5 g6
 obtain ⟨z0,e0,b0⟩:=zef _ _ _ g0
 obtain ⟨z1,e1,b1⟩:=zef _ _ _ g1
 obtain ⟨z2,e2,b2⟩:=zef _ _ _ g2
 obtain ⟨z3,e3,b3⟩:=zef _ _ _ g3
 obtain ⟨a4,k4,l4,e4,h4,E4,m4,n4⟩:=zcd pov 2 (0,0) _ Tryz.underlying29 (by kernel_rfl) (by omega) (fun _=>rfl) rd_p g4
 obtain ⟨z5,e5,_,b5⟩:=DataW.trod_int Tryz.underlying24 g5
 obtain ⟨a6,k6,l6,e6,h6,E6,m6,n6⟩:=zcd (fun x:Int=>[Value.int .u8 x]) 1 0 _ Tryz.underlying25 (by kernel_rfl) (by omega) (fun _=>rfl) zef g6
 have b5:=Go.bounds_i16 b5
 simp at b0 b1 b2 b3 e4 e5 e6
 subst b0
 subst b1
 subst b2
 subst b3
 subst e4
 subst e5
 subst e6
 simp only [maxLen] at n4 n6
 refine ⟨(⟨z0.toNat,z1.toNat,z2.toNat,z3.toNat,l4,z5,l6⟩,.slice a4 l4.length k4,.slice a6 l6.length k6),⟨⟨?_,?_,?_,?_,h4,?_,?_,h6,?_⟩,⟨a4,k4,rfl,E4⟩,⟨a6,k6,rfl,?_⟩⟩,?_⟩
 ·show z0.toNat≤255; omega
 ·show z1.toNat≤255; omega
 ·show z2.toNat≤255; omega
 ·show z3.toNat≤255; omega
 ·show l4.length≤_; omega
 ·show -32768≤z5∧z5≤32767; omega
 ·show l6.length≤_; omega
 ·rcases E6 with E6 | ⟨b,off,e,hE⟩
  ·exact .inl E6
  ·exact .inr ⟨b,off,e,fun i hi=>by
    have:=hE i hi 0 _ rfl
    simpa using this⟩
 ·unfold ovE ov
  simp only
  rw [show ((z0.toNat:Nat):Int) = z0 by omega,show ((z1.toNat:Nat):Int) = z1 by omega,show ((z2.toNat:Nat):Int) = z2 by omega,show ((z3.toNat:Nat):Int) = z3 by omega]
end
theorem info_op:∃ i,Tryz.prog.info? 47 = some i∧i.zero = some (.agg (opE opE0).toArray)∧i.size = 8∧i.bytes = 96:=by
 have hi0:(Tryz.prog.info? 47).map (fun i=>(i.zero,i.size,i.bytes)) = some (some (.agg (opE opE0).toArray),8,96):=by kernel_rfl
 obtain ⟨i,hi,h⟩:=Option.map_eq_some_iff.1 hi0
 simp only [Prod.mk.injEq] at h
 exact ⟨i,hi,h.1,h.2.1,h.2.2⟩
theorem zsj (W:World) (B:Nat) (ty:TypeId) (v:Value) (n:Nat) (xs:List (Sc.Op × Value × Value)) (hown:W.ownsRow B 47 8 v n (xs.flatMap opE)) (g:Nat) (o:Sc.Op) (p1 p2:Option Addr) (n1 n2 c1 c2:Nat)
  (RG:Row W g (opc o (.slice p1 n1 c1) (.slice p2 n2 c2)).toArray 47) (hn:n≤100000) (hB:B≤W.heap.size) :
  ∃ v' w',(Builtin.append_ #[63,63] ty #[v,.slice (some ⟨g,0,none⟩) 1 1]).run Tryz.prog W = .ok v' w'∧w'.ownsRow B 47 8 v' (n + 1) ((xs ++ [(o,Value.slice p1 n1 c1,Value.slice p2 n2 c2)]).flatMap opE)∧Below B W w'∧(∀ b,b < W.heap.size→v.ownBlock ≠ some b→w'.heap[b]? = W.heap[b]?)∧(v'.ownBlock = v.ownBlock∨v'.ownBlock = some W.heap.size)∧W.heap.size≤w'.heap.size:=by
 obtain ⟨i,hi,h1,h2,h3⟩:=info_op
 obtain ⟨v',w',hr,k2,k3,k4,k5⟩:=run_append_own_at (P:=Tryz.prog) W B 63 ty 47 i (.agg (opE opE0).toArray) 8 96 Tryz.underlying63 hi h1 h2 h3 rfl (by omega) v n (xs.flatMap opE) hown ⟨g,0,none⟩ 1 1 (opc o (Value.slice p1 n1 c1) (Value.slice p2 n2 c2)) rfl (fun j u hj=>by
  rw [zbo,Nat.zero_add,RG.cell j]
  simpa using hj) (fun u hu=>by simp [opc] at hu; rcases hu with rfl | rfl | rfl | rfl | rfl | rfl | rfl | rfl <;> rfl) (by unfold maxLen; omega) (by omega) hB
 have hBB:Below B W w':=(Below.refl B W).grown k3 hB (fun k hk=>(zbc hown hk).1)
 exact ⟨v',w',hr,by rw [List.flatMap_append]; simpa [opE] using k2,hBB,fun b hb hne=>k3.block b hb fun e=>hne e.symm,k5,hBB.size⟩
end Go.Proofs.YtlpdfglbdijkoaaGreatDoor