/-
  Own texts, several in one (LText, LText2, Name6, Raw13).
-/
import Derived.Test.YtlpdfglbdijkoaaGreatDoorMrg21
import Derived.Test.YtlpdfglbdijkoaaGreatDoorMrg20
import Derived.Test.YtlpdfglbdijkoaaGreatDoorMrg22
namespace Go.Proofs.YtlpdfglbdijkoaaGreatDoor
open Go.RowKit
set_option linter.unusedVariables false
set_option linter.unusedSimpArgs false
end Go.Proofs.YtlpdfglbdijkoaaGreatDoor
namespace Go.Proofs.YtlpdfglbdijkoaaGreatDoor
open Go.RowKit
set_option linter.unusedVariables false
set_option linter.unusedSimpArgs false
namespace Sc
def names6:List (List UInt8):=[[67,97,115,104],[97],[66,97,110,107,32,49],[76,111,115,115,46,120],[49,50,51,52,53,54,55,56,57,48,49,50,51,52,53,54,55,56,57,48,49,50,51,52,53,54,55,56,57,48]]
def name6 (n:Nat):List UInt8:=names6.getD (n % 5) []
end Sc
set_option maxHeartbeats 4000000 in
set_option maxRecDepth 100000 in
theorem ziz (n:Nat) (hn:n≤255) (w:World) :
  Calls Tryz.prog 41 #[.int .u8 (n:Int)] w fun e w'=>e = .returned (.string ⟨(Sc.name6 n).toArray⟩)∧Below w.heap.size w w':=by
 have R0:=Row.new w (sv Sc.names6).toArray 9
 have B0:=hdq (zaa (Below.refl _ w) (.cells (sv Sc.names6).toArray 9))
 have m0:((n:Int)).tmod 5 = ((n % 5:Nat):Int):=by
  rw [Int.tmod_eq_emod_of_nonneg (by omega)]; rfl
 unfold Sc.name6
 have hm:n % 5 < 5:=by omega
 generalize n % 5 = m at *
 have hm2:m = 0∨m = 1∨m = 2∨m = 3∨m = 4:=by omega
 rcases hm2 with rfl | rfl | rfl | rfl | rfl
 ·go_enter Tryz.func41,Tryz.ntmps41
  go_wp2
  exact bodyPost_ret (v:=.string ⟨(Sc.names6.getD 0 []).toArray⟩) (by simp [results,Tryz.results41,go_sem]; rfl) rfl ⟨rfl,B0.out⟩
 ·go_enter Tryz.func41,Tryz.ntmps41
  go_wp2
  exact bodyPost_ret (v:=.string ⟨(Sc.names6.getD 1 []).toArray⟩) (by simp [results,Tryz.results41,go_sem]; rfl) rfl ⟨rfl,B0.out⟩
 ·go_enter Tryz.func41,Tryz.ntmps41
  go_wp2
  exact bodyPost_ret (v:=.string ⟨(Sc.names6.getD 2 []).toArray⟩) (by simp [results,Tryz.results41,go_sem]; rfl) rfl ⟨rfl,B0.out⟩
 ·go_enter Tryz.func41,Tryz.ntmps41
  go_wp2
  exact bodyPost_ret (v:=.string ⟨(Sc.names6.getD 3 []).toArray⟩) (by simp [results,Tryz.results41,go_sem]; rfl) rfl ⟨rfl,B0.out⟩
 ·go_enter Tryz.func41,Tryz.ntmps41
  go_wp2
  exact bodyPost_ret (v:=.string ⟨(Sc.names6.getD 4 []).toArray⟩) (by simp [results,Tryz.results41,go_sem]; rfl) rfl ⟨rfl,B0.out⟩
namespace Sc
structure O where
 kind:Nat
 a:Nat
 b:Nat
 nm:Nat
 parts:List (Nat × Nat)
 first:Int
 long:List Int
structure O.ok (x:O):Prop where
 kind:x.kind≤255
 a:x.a≤255
 b:x.b≤255
 nm:x.nm≤255
 parts:∀ p ∈ x.parts,p.1≤255∧p.2≤4294967295
 plen:x.parts.length≤9223372036854775807
 first:-32768≤x.first∧x.first≤32767
 long:∀ n ∈ x.long,0≤n∧n≤255
 llen:x.long.length≤9223372036854775807
def raw1 (x:O):Op:=⟨1,1 + x.a,0,name6 x.nm,[],[],0,0⟩
def raw2 (x:O):Op:=⟨2,1 + x.a,x.b,[],[],[],0,0⟩
def rawPt (q:Nat × Nat):Nat × Nat:=(1 + q.1,1 + q.2 % 1000000)
def raw4 (x:O):Op:=⟨4,1 + x.a,0,[],(1 + x.b,1) :: (x.parts.take 7).map rawPt,[],0,0⟩
def raw7 (x:O):Op:=⟨7,0,0,[],[],mkStarts x.first x.long (min x.long.length 12),dayAt x.first x.long (min x.long.length 12) + 31,0⟩
def raw0 (k:Nat) (x:O):Op:=⟨k,1 + x.a,1 + x.b,[],[],[],0,0⟩
def raw (x:O):Op:=if x.kind % 8 = 1 then raw1 x else if x.kind % 8 = 4 then raw4 x else if x.kind % 8 = 7 then raw7 x else if x.kind % 8 = 2 then raw2 x else raw0 (x.kind % 8) x
end Sc
def ov (x:Sc.O) (vp vl:Value):List Value:=[.int .u8 (x.kind:Int),.int .u8 (x.a:Int),.int .u8 (x.b:Int),.int .u8 (x.nm:Int),vp,.int .i16 x.first,vl]
def pov (p:Nat × Nat):List Value:=[.int .u8 (p.1:Int),.int .u32 (p.2:Int)]
def PosAt (w:World) (v:Value) (l:List (Nat × Nat)):Prop:=∃ p cap,v = .slice p l.length cap∧ElsAt pov 2 (0,0) w p l
theorem PosAt.below {w w':World} {v:Value} {l:List (Nat × Nat)} (h:PosAt w v l) (hb:Below w.heap.size w w'):PosAt w' v l:=by
 obtain ⟨p,cap,e,h⟩:=h
 exact ⟨p,cap,e,h.below hb⟩
def Fresh (w w':World) (v:Value):Prop:=∀ g,v.ownBlock = some g→w.heap.size≤g∧g < w'.heap.size
theorem zby (w w':World):Fresh w w' (.slice none 0 0):=fun g h=>by simp [Value.ownBlock] at h
theorem zjh {w w':World} {B n size:Nat} {e:TypeId} {v:Value} {xs:List Value} (h:w'.ownsRow B e size v n xs) (hB:w.heap.size≤B):Fresh w w' v:=fun g hg=>by
 have:=zbc h hg
 exact ⟨by omega,this.2⟩
theorem zhc (w:World):PtsAt w (.slice none 0 0) []:=⟨none,0,rfl,.inl rfl⟩
set_option maxHeartbeats 8000000 in
set_option maxRecDepth 100000 in
theorem raw13_2 (x:Sc.O) (hx:x.ok) (vp vl:Value) (w:World) (hP:PosAt w vp x.parts) (hL:NsAt .u8 w vl x.long) (hk:x.kind % 8 = 2) :
  Calls Tryz.prog 21 #[.agg (ov x vp vl).toArray] w fun e w'=>∃ v1 v2,e = .returned (.agg (opc (Sc.raw2 x) v1 v2).toArray)∧PtsAt w' v1 (Sc.raw2 x).parts∧NsAt .i32 w' v2 (Sc.raw2 x).starts∧Fresh w w' v1∧Fresh w w' v2∧Below w.heap.size w w':=by
 have HX:=hdq hx
 have ha:=hx.a
 have hb:=hx.b
 have m0:((x.kind:Int)).tmod 8 = 2:=by
  rw [Int.tmod_eq_emod_of_nonneg (by omega)]; omega
 have e3:IntKind.u32.wrap (x.a:Int) = x.a:=by rw [IntKind.wrap_u32]; omega
 have e4:IntKind.u32.wrap (1 + (x.a:Int)) = 1 + x.a:=by rw [IntKind.wrap_u32]; omega
 have e5:IntKind.u32.wrap (x.b:Int) = x.b:=by rw [IntKind.wrap_u32]; omega
 have e6:IntKind.u32.wrap (1 + (x.b:Int)) = 1 + x.b:=by rw [IntKind.wrap_u32]; omega
 have HP:=hdq hP
 have HL:=hdq hL
 clear hx ha hb hP hL hk
 unfold ov
 go_enter Tryz.func21,Tryz.ntmps21
 go_wp2_with (first
  | (refine zjk (N:=1) rfl rfl 31 (Operand.tmp 0) rfl #[.int .u8 (x.kind:Int),.int .u8 (x.a:Int),.int .u8 (x.b:Int),.int .u8 (x.nm:Int),vp,.int .i16 x.first,vl] rfl ?_; intro g0 w1 hg0 RB B1)
  | (refine zal (N:=2) rfl rfl 47 rfl #[.int .i64 0,.int .u32 0,.int .u32 0,.string ByteArray.empty,.slice none 0 0,.slice none 0 0,.int .i32 0,.int .i64 0] (fun w=>by kernel_rfl) ?_; intro gr w2 hgr RR B2; have RB2:=RB.below B2; have d0:w2.cell? ⟨g0,0,none⟩ = some (.int .u8 (x.kind:Int)):=RB2.cell 0; have d1:w2.cell? ⟨g0,1,none⟩ = some (.int .u8 (x.a:Int)):=RB2.cell 1)
  | (refine zal (N:=3) rfl rfl 47 rfl #[.int .i64 0,.int .u32 0,.int .u32 0,.string ByteArray.empty,.slice none 0 0,.slice none 0 0,.int .i32 0,.int .i64 0] (fun w=>by kernel_rfl) ?_; intro gx w3 hgx RX B3)
  | (refine zad rfl 47 (Operand.tmp 3) (Operand.tmp 14) rfl gx #[.int .i64 2,.int .u32 (1 + (x.a:Int)),.int .u32 0,.string ByteArray.empty,.slice none 0 0,.slice none 0 0,.int .i32 0,.int .i64 0] rfl rfl RX (by kernel_rfl) rfl (by simp [Value.oneCell']) rfl ?_; intro w4 RX4 S4; have hl0:=RB.lt; have hl1:=RR.lt; have RB4:=(RB2.below B3).stored S4 (by omega); have RR4:=(RR.below B3).stored S4 (by omega); have BB4:=S4.below (zab (zab B1 B2) B3) (by have:=B1.size; have:=B2.size; omega); have d2:w4.cell? ⟨g0,2,none⟩ = some (.int .u8 (x.b:Int)):=RB4.cell 2; have d3:w4.cell? ⟨g0,3,none⟩ = some (.int .u8 (x.nm:Int)):=RB4.cell 3; have d4:w4.cell? ⟨g0,4,none⟩ = some vp:=RB4.cell 4; have d5:w4.cell? ⟨g0,5,none⟩ = some (.int .i16 x.first):=RB4.cell 5; have d6:w4.cell? ⟨g0,6,none⟩ = some vl:=RB4.cell 6; have f0:w4.cell? ⟨gx,0,none⟩ = some (.int .i64 2):=RX4.cell 0; have f1:w4.cell? ⟨gx,1,none⟩ = some (.int .u32 (1 + (x.a:Int))):=RX4.cell 1; have f2:w4.cell? ⟨gx,2,none⟩ = some (.int .u32 0):=RX4.cell 2; have f3:w4.cell? ⟨gx,3,none⟩ = some (.string ByteArray.empty):=RX4.cell 3; have f4:w4.cell? ⟨gx,4,none⟩ = some (.slice none 0 0):=RX4.cell 4; have f5:w4.cell? ⟨gx,5,none⟩ = some (.slice none 0 0):=RX4.cell 5; have f6:w4.cell? ⟨gx,6,none⟩ = some (.int .i32 0):=RX4.cell 6; have z1:w4.frozen? ⟨gx,1,none⟩ = false:=RX4.frozen 1; have z2:w4.frozen? ⟨gx,2,none⟩ = false:=RX4.frozen 2; have z3:w4.frozen? ⟨gx,3,none⟩ = false:=RX4.frozen 3; have z4:w4.frozen? ⟨gx,4,none⟩ = false:=RX4.frozen 4; have z5:w4.frozen? ⟨gx,5,none⟩ = false:=RX4.frozen 5; have z6:w4.frozen? ⟨gx,6,none⟩ = false:=RX4.frozen 6; have RS:Row (w4.setCell ⟨gx,2,none⟩ (.int .u32 (x.b:Int))) gx #[.int .i64 2,.int .u32 (1 + (x.a:Int)),.int .u32 (x.b:Int),.string ByteArray.empty,.slice none 0 0,.slice none 0 0,.int .i32 0,.int .i64 0] 47:=RX4.set 2 _; have RRS:=RR4.other ⟨gx,2,none⟩ (show gr ≠ gx by omega) (.int .u32 (x.b:Int)); have BS:=hdq ((zaf w4 gx 2 (.int .u32 (x.b:Int))).below BB4 (by have:=B1.size; have:=B2.size; omega)); have HGR:=hdq (show w.heap.size≤gr by have:=B1.size; omega))
  | (refine zaq (N:=78) rfl rfl 47 (Operand.tmp 3) rfl gx rfl RS _ Tryz.underlying47 rfl (by kernel_rfl) ?_)
  | (refine zad rfl 47 (Operand.tmp 2) (Operand.tmp 78) rfl gr #[.int .i64 2,.int .u32 (1 + (x.a:Int)),.int .u32 (x.b:Int),.string ByteArray.empty,.slice none 0 0,.slice none 0 0,.int .i32 0,.int .i64 0] rfl rfl RRS (by kernel_rfl) rfl (by kernel_rfl) rfl ?_; intro w9 RZ S9))
 exact bodyPost_ret (v:=.agg #[.int .i64 2,.int .u32 (1 + (x.a:Int)),.int .u32 (x.b:Int),.string ByteArray.empty,.slice none 0 0,.slice none 0 0,.int .i32 0,.int .i64 0]) (zau rfl _ _ RZ rfl Tryz.underlying47 rfl (by kernel_rfl)) rfl ⟨_,_,rfl,zhc _,zix _ _,zby _ _,zby _ _,S9.below BS.out HGR.out⟩
set_option maxHeartbeats 8000000 in
set_option maxRecDepth 100000 in
theorem raw13_0 (x:Sc.O) (hx:x.ok) (vp vl:Value) (w:World) (hP:PosAt w vp x.parts) (hL:NsAt .u8 w vl x.long) (k:Nat) (hk:x.kind % 8 = k) (hk1:k ≠ 1) (hk4:k ≠ 4) (hk7:k ≠ 7) (hk2:k ≠ 2) :
  Calls Tryz.prog 21 #[.agg (ov x vp vl).toArray] w fun e w'=>∃ v1 v2,e = .returned (.agg (opc (Sc.raw0 k x) v1 v2).toArray)∧PtsAt w' v1 (Sc.raw0 k x).parts∧NsAt .i32 w' v2 (Sc.raw0 k x).starts∧Fresh w w' v1∧Fresh w w' v2∧Below w.heap.size w w':=by
 have HX:=hdq hx
 have ha:=hx.a
 have hb:=hx.b
 have m0:((x.kind:Int)).tmod 8 = (k:Int):=by
  rw [Int.tmod_eq_emod_of_nonneg (by omega)]; omega
 have hk8:k < 8:=by omega
 have q1:((k:Int) == 1) = false:=beq_eq_false_iff_ne.2 (by omega)
 have q4:((k:Int) == 4) = false:=beq_eq_false_iff_ne.2 (by omega)
 have q7:((k:Int) == 7) = false:=beq_eq_false_iff_ne.2 (by omega)
 have q2:((k:Int) == 2) = false:=beq_eq_false_iff_ne.2 (by omega)
 have e0:IntKind.u8.wrap (k:Int) = k:=by rw [IntKind.wrap_u8]; omega
 have e1:IntKind.i64.wrap (k:Int) = k:=by rw [IntKind.wrap_i64]; omega
 have e3:IntKind.u32.wrap (x.a:Int) = x.a:=by rw [IntKind.wrap_u32]; omega
 have e4:IntKind.u32.wrap (1 + (x.a:Int)) = 1 + x.a:=by rw [IntKind.wrap_u32]; omega
 have e5:IntKind.u32.wrap (x.b:Int) = x.b:=by rw [IntKind.wrap_u32]; omega
 have e6:IntKind.u32.wrap (1 + (x.b:Int)) = 1 + x.b:=by rw [IntKind.wrap_u32]; omega
 have HP:=hdq hP
 have HL:=hdq hL
 clear hx ha hb hP hL hk
 unfold ov
 go_enter Tryz.func21,Tryz.ntmps21
 go_wp2_with (first
  | (refine zjk (N:=1) rfl rfl 31 (Operand.tmp 0) rfl #[.int .u8 (x.kind:Int),.int .u8 (x.a:Int),.int .u8 (x.b:Int),.int .u8 (x.nm:Int),vp,.int .i16 x.first,vl] rfl ?_; intro g0 w1 hg0 RB B1)
  | (refine zal (N:=2) rfl rfl 47 rfl #[.int .i64 0,.int .u32 0,.int .u32 0,.string ByteArray.empty,.slice none 0 0,.slice none 0 0,.int .i32 0,.int .i64 0] (fun w=>by kernel_rfl) ?_; intro gr w2 hgr RR B2; have RB2:=RB.below B2; have d0:w2.cell? ⟨g0,0,none⟩ = some (.int .u8 (x.kind:Int)):=RB2.cell 0; have d1:w2.cell? ⟨g0,1,none⟩ = some (.int .u8 (x.a:Int)):=RB2.cell 1)
  | (refine zal (N:=3) rfl rfl 47 rfl #[.int .i64 0,.int .u32 0,.int .u32 0,.string ByteArray.empty,.slice none 0 0,.slice none 0 0,.int .i32 0,.int .i64 0] (fun w=>by kernel_rfl) ?_; intro gx w3 hgx RX B3)
  | (refine zad rfl 47 (Operand.tmp 3) (Operand.tmp 14) rfl gx #[.int .i64 (k:Int),.int .u32 (1 + (x.a:Int)),.int .u32 0,.string ByteArray.empty,.slice none 0 0,.slice none 0 0,.int .i32 0,.int .i64 0] rfl rfl RX (by kernel_rfl) rfl (by simp [Value.oneCell']) rfl ?_; intro w4 RX4 S4; have hl0:=RB.lt; have hl1:=RR.lt; have RB4:=(RB2.below B3).stored S4 (by omega); have RR4:=(RR.below B3).stored S4 (by omega); have BB4:=S4.below (zab (zab B1 B2) B3) (by have:=B1.size; have:=B2.size; omega); have d2:w4.cell? ⟨g0,2,none⟩ = some (.int .u8 (x.b:Int)):=RB4.cell 2; have d3:w4.cell? ⟨g0,3,none⟩ = some (.int .u8 (x.nm:Int)):=RB4.cell 3; have d4:w4.cell? ⟨g0,4,none⟩ = some vp:=RB4.cell 4; have d5:w4.cell? ⟨g0,5,none⟩ = some (.int .i16 x.first):=RB4.cell 5; have d6:w4.cell? ⟨g0,6,none⟩ = some vl:=RB4.cell 6; have f0:w4.cell? ⟨gx,0,none⟩ = some (.int .i64 (k:Int)):=RX4.cell 0; have f1:w4.cell? ⟨gx,1,none⟩ = some (.int .u32 (1 + (x.a:Int))):=RX4.cell 1; have f2:w4.cell? ⟨gx,2,none⟩ = some (.int .u32 0):=RX4.cell 2; have f3:w4.cell? ⟨gx,3,none⟩ = some (.string ByteArray.empty):=RX4.cell 3; have f4:w4.cell? ⟨gx,4,none⟩ = some (.slice none 0 0):=RX4.cell 4; have f5:w4.cell? ⟨gx,5,none⟩ = some (.slice none 0 0):=RX4.cell 5; have f6:w4.cell? ⟨gx,6,none⟩ = some (.int .i32 0):=RX4.cell 6; have z1:w4.frozen? ⟨gx,1,none⟩ = false:=RX4.frozen 1; have z2:w4.frozen? ⟨gx,2,none⟩ = false:=RX4.frozen 2; have z3:w4.frozen? ⟨gx,3,none⟩ = false:=RX4.frozen 3; have z4:w4.frozen? ⟨gx,4,none⟩ = false:=RX4.frozen 4; have z5:w4.frozen? ⟨gx,5,none⟩ = false:=RX4.frozen 5; have z6:w4.frozen? ⟨gx,6,none⟩ = false:=RX4.frozen 6; have RS:Row (w4.setCell ⟨gx,2,none⟩ (.int .u32 (1 + (x.b:Int)))) gx #[.int .i64 (k:Int),.int .u32 (1 + (x.a:Int)),.int .u32 (1 + (x.b:Int)),.string ByteArray.empty,.slice none 0 0,.slice none 0 0,.int .i32 0,.int .i64 0] 47:=RX4.set 2 _; have RRS:=RR4.other ⟨gx,2,none⟩ (show gr ≠ gx by omega) (.int .u32 (1 + (x.b:Int))); have BS:=hdq ((zaf w4 gx 2 (.int .u32 (1 + (x.b:Int)))).below BB4 (by have:=B1.size; have:=B2.size; omega)); have HGR:=hdq (show w.heap.size≤gr by have:=B1.size; omega))
  | (refine zaq (N:=78) rfl rfl 47 (Operand.tmp 3) rfl gx rfl RS _ Tryz.underlying47 rfl (by kernel_rfl) ?_)
  | (refine zad rfl 47 (Operand.tmp 2) (Operand.tmp 78) rfl gr #[.int .i64 (k:Int),.int .u32 (1 + (x.a:Int)),.int .u32 (1 + (x.b:Int)),.string ByteArray.empty,.slice none 0 0,.slice none 0 0,.int .i32 0,.int .i64 0] rfl rfl RRS (by kernel_rfl) rfl (by kernel_rfl) rfl ?_; intro w9 RZ S9))
 exact bodyPost_ret (v:=.agg #[.int .i64 (k:Int),.int .u32 (1 + (x.a:Int)),.int .u32 (1 + (x.b:Int)),.string ByteArray.empty,.slice none 0 0,.slice none 0 0,.int .i32 0,.int .i64 0]) (zau rfl _ _ RZ rfl Tryz.underlying47 rfl (by kernel_rfl)) rfl ⟨_,_,rfl,zhc _,zix _ _,zby _ _,zby _ _,S9.below BS.out HGR.out⟩
set_option maxHeartbeats 8000000 in
set_option maxRecDepth 100000 in
theorem raw13_1 (x:Sc.O) (hx:x.ok) (vp vl:Value) (w:World) (hP:PosAt w vp x.parts) (hL:NsAt .u8 w vl x.long) (hk:x.kind % 8 = 1) :
  Calls Tryz.prog 21 #[.agg (ov x vp vl).toArray] w fun e w'=>∃ v1 v2,e = .returned (.agg (opc (Sc.raw1 x) v1 v2).toArray)∧PtsAt w' v1 (Sc.raw1 x).parts∧NsAt .i32 w' v2 (Sc.raw1 x).starts∧Fresh w w' v1∧Fresh w w' v2∧Below w.heap.size w w':=by
 have HX:=hdq hx
 have ha:=hx.a
 have hb:=hx.b
 have m0:((x.kind:Int)).tmod 8 = 1:=by
  rw [Int.tmod_eq_emod_of_nonneg (by omega)]; omega
 have e3:IntKind.u32.wrap (x.a:Int) = x.a:=by rw [IntKind.wrap_u32]; omega
 have e4:IntKind.u32.wrap (1 + (x.a:Int)) = 1 + x.a:=by rw [IntKind.wrap_u32]; omega
 have e5:IntKind.u32.wrap (x.b:Int) = x.b:=by rw [IntKind.wrap_u32]; omega
 have e6:IntKind.u32.wrap (1 + (x.b:Int)) = 1 + x.b:=by rw [IntKind.wrap_u32]; omega
 have HP:=hdq hP
 have HL:=hdq hL
 clear hx ha hb hP hL hk
 unfold ov
 go_enter Tryz.func21,Tryz.ntmps21
 go_wp2_with (first
  | (refine zjk (N:=1) rfl rfl 31 (Operand.tmp 0) rfl #[.int .u8 (x.kind:Int),.int .u8 (x.a:Int),.int .u8 (x.b:Int),.int .u8 (x.nm:Int),vp,.int .i16 x.first,vl] rfl ?_; intro g0 w1 hg0 RB B1)
  | (refine zal (N:=2) rfl rfl 47 rfl #[.int .i64 0,.int .u32 0,.int .u32 0,.string ByteArray.empty,.slice none 0 0,.slice none 0 0,.int .i32 0,.int .i64 0] (fun w=>by kernel_rfl) ?_; intro gr w2 hgr RR B2; have RB2:=RB.below B2; have d0:w2.cell? ⟨g0,0,none⟩ = some (.int .u8 (x.kind:Int)):=RB2.cell 0; have d1:w2.cell? ⟨g0,1,none⟩ = some (.int .u8 (x.a:Int)):=RB2.cell 1)
  | (refine zal (N:=3) rfl rfl 47 rfl #[.int .i64 0,.int .u32 0,.int .u32 0,.string ByteArray.empty,.slice none 0 0,.slice none 0 0,.int .i32 0,.int .i64 0] (fun w=>by kernel_rfl) ?_; intro gx w3 hgx RX B3)
  | (refine zad rfl 47 (Operand.tmp 3) (Operand.tmp 14) rfl gx #[.int .i64 1,.int .u32 (1 + (x.a:Int)),.int .u32 0,.string ByteArray.empty,.slice none 0 0,.slice none 0 0,.int .i32 0,.int .i64 0] rfl rfl RX (by kernel_rfl) rfl (by simp [Value.oneCell']) rfl ?_; intro w4 RX4 S4; have hl0:=RB.lt; have hl1:=RR.lt; have RB4:=(RB2.below B3).stored S4 (by omega); have RR4:=(RR.below B3).stored S4 (by omega); have BB4:=S4.below (zab (zab B1 B2) B3) (by have:=B1.size; have:=B2.size; omega); have d2:w4.cell? ⟨g0,2,none⟩ = some (.int .u8 (x.b:Int)):=RB4.cell 2; have d3:w4.cell? ⟨g0,3,none⟩ = some (.int .u8 (x.nm:Int)):=RB4.cell 3; have d4:w4.cell? ⟨g0,4,none⟩ = some vp:=RB4.cell 4; have d5:w4.cell? ⟨g0,5,none⟩ = some (.int .i16 x.first):=RB4.cell 5; have d6:w4.cell? ⟨g0,6,none⟩ = some vl:=RB4.cell 6; have f0:w4.cell? ⟨gx,0,none⟩ = some (.int .i64 1):=RX4.cell 0; have f1:w4.cell? ⟨gx,1,none⟩ = some (.int .u32 (1 + (x.a:Int))):=RX4.cell 1; have f2:w4.cell? ⟨gx,2,none⟩ = some (.int .u32 0):=RX4.cell 2; have f3:w4.cell? ⟨gx,3,none⟩ = some (.string ByteArray.empty):=RX4.cell 3; have f4:w4.cell? ⟨gx,4,none⟩ = some (.slice none 0 0):=RX4.cell 4; have f5:w4.cell? ⟨gx,5,none⟩ = some (.slice none 0 0):=RX4.cell 5; have f6:w4.cell? ⟨gx,6,none⟩ = some (.int .i32 0):=RX4.cell 6; have z1:w4.frozen? ⟨gx,1,none⟩ = false:=RX4.frozen 1; have z2:w4.frozen? ⟨gx,2,none⟩ = false:=RX4.frozen 2; have z3:w4.frozen? ⟨gx,3,none⟩ = false:=RX4.frozen 3; have z4:w4.frozen? ⟨gx,4,none⟩ = false:=RX4.frozen 4; have z5:w4.frozen? ⟨gx,5,none⟩ = false:=RX4.frozen 5; have z6:w4.frozen? ⟨gx,6,none⟩ = false:=RX4.frozen 6))
 refine (ziz x.nm HX.out.nm _).mono ?_
 rintro _ w5 ⟨rfl,hB5⟩
 have RX5:=RX4.below hB5
 have RR5:=RR4.below hB5
 have g3:w5.cell? ⟨gx,3,none⟩ = some (.string ByteArray.empty):=RX5.cell 3
 have y3:w5.frozen? ⟨gx,3,none⟩ = false:=RX5.frozen 3
 have RS:Row (w5.setCell ⟨gx,3,none⟩ (.string ⟨(Sc.name6 x.nm).toArray⟩)) gx #[.int .i64 1,.int .u32 (1 + (x.a:Int)),.int .u32 0,.string ⟨(Sc.name6 x.nm).toArray⟩,.slice none 0 0,.slice none 0 0,.int .i32 0,.int .i64 0] 47:=RX5.set 3 _
 have RRS:=RR5.other ⟨gx,3,none⟩ (show gr ≠ gx by omega) (.string ⟨(Sc.name6 x.nm).toArray⟩)
 have BS:=hdq ((zaf w5 gx 3 (.string ⟨(Sc.name6 x.nm).toArray⟩)).below (zab BB4 hB5) (by have:=B1.size; have:=B2.size; omega))
 have HGR:=hdq (show w.heap.size≤gr by have:=B1.size; omega)
 go_wp2_with (first
  | (refine zaq (N:=78) rfl rfl 47 (Operand.tmp 3) rfl gx rfl RS _ Tryz.underlying47 rfl (by kernel_rfl) ?_)
  | (refine zad rfl 47 (Operand.tmp 2) (Operand.tmp 78) rfl gr #[.int .i64 1,.int .u32 (1 + (x.a:Int)),.int .u32 0,.string ⟨(Sc.name6 x.nm).toArray⟩,.slice none 0 0,.slice none 0 0,.int .i32 0,.int .i64 0] rfl rfl RRS (by kernel_rfl) rfl (by kernel_rfl) rfl ?_; intro w9 RZ S9))
 exact bodyPost_ret (v:=.agg #[.int .i64 1,.int .u32 (1 + (x.a:Int)),.int .u32 0,.string ⟨(Sc.name6 x.nm).toArray⟩,.slice none 0 0,.slice none 0 0,.int .i32 0,.int .i64 0]) (zau rfl _ _ RZ rfl Tryz.underlying47 rfl (by kernel_rfl)) rfl ⟨_,_,rfl,zhc _,zix _ _,zby _ _,zby _ _,S9.below BS.out HGR.out⟩
set_option maxHeartbeats 8000000 in
set_option maxRecDepth 100000 in
theorem raw13_7 (x:Sc.O) (hx:x.ok) (vp vl:Value) (w:World) (hP:PosAt w vp x.parts) (hL:NsAt .u8 w vl x.long) (hk:x.kind % 8 = 7) :
  Calls Tryz.prog 21 #[.agg (ov x vp vl).toArray] w fun e w'=>∃ v1 v2,e = .returned (.agg (opc (Sc.raw7 x) v1 v2).toArray)∧PtsAt w' v1 (Sc.raw7 x).parts∧NsAt .i32 w' v2 (Sc.raw7 x).starts∧Fresh w w' v1∧Fresh w w' v2∧Below w.heap.size w w':=by
 have HX:=hdq hx
 have ha:=hx.a
 have hb:=hx.b
 have m0:((x.kind:Int)).tmod 8 = 7:=by
  rw [Int.tmod_eq_emod_of_nonneg (by omega)]; omega
 have e3:IntKind.u32.wrap (x.a:Int) = x.a:=by rw [IntKind.wrap_u32]; omega
 have e4:IntKind.u32.wrap (1 + (x.a:Int)) = 1 + x.a:=by rw [IntKind.wrap_u32]; omega
 have e5:IntKind.u32.wrap (x.b:Int) = x.b:=by rw [IntKind.wrap_u32]; omega
 have e6:IntKind.u32.wrap (1 + (x.b:Int)) = 1 + x.b:=by rw [IntKind.wrap_u32]; omega
 have HP:=hdq hP
 have HL:=hdq hL
 clear hx ha hb hP hL hk
 unfold ov
 go_enter Tryz.func21,Tryz.ntmps21
 go_wp2_with (first
  | (refine zjk (N:=1) rfl rfl 31 (Operand.tmp 0) rfl #[.int .u8 (x.kind:Int),.int .u8 (x.a:Int),.int .u8 (x.b:Int),.int .u8 (x.nm:Int),vp,.int .i16 x.first,vl] rfl ?_; intro g0 w1 hg0 RB B1)
  | (refine zal (N:=2) rfl rfl 47 rfl #[.int .i64 0,.int .u32 0,.int .u32 0,.string ByteArray.empty,.slice none 0 0,.slice none 0 0,.int .i32 0,.int .i64 0] (fun w=>by kernel_rfl) ?_; intro gr w2 hgr RR B2; have RB2:=RB.below B2; have d0:w2.cell? ⟨g0,0,none⟩ = some (.int .u8 (x.kind:Int)):=RB2.cell 0; have d1:w2.cell? ⟨g0,1,none⟩ = some (.int .u8 (x.a:Int)):=RB2.cell 1)
  | (refine zal (N:=3) rfl rfl 47 rfl #[.int .i64 0,.int .u32 0,.int .u32 0,.string ByteArray.empty,.slice none 0 0,.slice none 0 0,.int .i32 0,.int .i64 0] (fun w=>by kernel_rfl) ?_; intro gx w3 hgx RX B3)
  | (refine zad rfl 47 (Operand.tmp 3) (Operand.tmp 14) rfl gx #[.int .i64 7,.int .u32 (1 + (x.a:Int)),.int .u32 0,.string ByteArray.empty,.slice none 0 0,.slice none 0 0,.int .i32 0,.int .i64 0] rfl rfl RX (by kernel_rfl) rfl (by simp [Value.oneCell']) rfl ?_; intro w4 RX4 S4; have hl0:=RB.lt; have hl1:=RR.lt; have RB4:=(RB2.below B3).stored S4 (by omega); have RR4:=(RR.below B3).stored S4 (by omega); have BB4:=S4.below (zab (zab B1 B2) B3) (by have:=B1.size; have:=B2.size; omega); have d2:w4.cell? ⟨g0,2,none⟩ = some (.int .u8 (x.b:Int)):=RB4.cell 2; have d3:w4.cell? ⟨g0,3,none⟩ = some (.int .u8 (x.nm:Int)):=RB4.cell 3; have d4:w4.cell? ⟨g0,4,none⟩ = some vp:=RB4.cell 4; have d5:w4.cell? ⟨g0,5,none⟩ = some (.int .i16 x.first):=RB4.cell 5; have d6:w4.cell? ⟨g0,6,none⟩ = some vl:=RB4.cell 6; have f0:w4.cell? ⟨gx,0,none⟩ = some (.int .i64 7):=RX4.cell 0; have f1:w4.cell? ⟨gx,1,none⟩ = some (.int .u32 (1 + (x.a:Int))):=RX4.cell 1; have f2:w4.cell? ⟨gx,2,none⟩ = some (.int .u32 0):=RX4.cell 2; have f3:w4.cell? ⟨gx,3,none⟩ = some (.string ByteArray.empty):=RX4.cell 3; have f4:w4.cell? ⟨gx,4,none⟩ = some (.slice none 0 0):=RX4.cell 4; have f5:w4.cell? ⟨gx,5,none⟩ = some (.slice none 0 0):=RX4.cell 5; have f6:w4.cell? ⟨gx,6,none⟩ = some (.int .i32 0):=RX4.cell 6; have z1:w4.frozen? ⟨gx,1,none⟩ = false:=RX4.frozen 1; have z2:w4.frozen? ⟨gx,2,none⟩ = false:=RX4.frozen 2; have z3:w4.frozen? ⟨gx,3,none⟩ = false:=RX4.frozen 3; have z4:w4.frozen? ⟨gx,4,none⟩ = false:=RX4.frozen 4; have z5:w4.frozen? ⟨gx,5,none⟩ = false:=RX4.frozen 5; have z6:w4.frozen? ⟨gx,6,none⟩ = false:=RX4.frozen 6))
 refine (zfv x.first vl x.long HX.out.first HX.out.long HX.out.llen _ (HL.out.below BB4)).mono ?_
 rintro _ w5 ⟨v,rfl,hO,hB5⟩
 obtain ⟨pv,cv,rfl⟩:=zaj hO
 have RX5:=RX4.below hB5
 have RR5:=RR4.below hB5
 have g1:w5.cell? ⟨gx,1,none⟩ = some (.int .u32 (1 + (x.a:Int))):=RX5.cell 1
 have y1:w5.frozen? ⟨gx,1,none⟩ = false:=RX5.frozen 1
 have RA:=RX5.set 1 (.int .u32 0)
 have g5:(w5.setCell ⟨gx,1,none⟩ (.int .u32 0)).cell? ⟨gx,5,none⟩ = some (.slice none 0 0):=RA.cell 5
 have y5:(w5.setCell ⟨gx,1,none⟩ (.int .u32 0)).frozen? ⟨gx,5,none⟩ = false:=RA.frozen 5
 have RB':=RA.set 5 (.slice pv (min x.long.length 12 + 1) cv)
 have g6:((w5.setCell ⟨gx,1,none⟩ (.int .u32 0)).setCell ⟨gx,5,none⟩ (.slice pv (min x.long.length 12 + 1) cv)).cell? ⟨gx,6,none⟩ = some (.int .i32 0):=RB'.cell 6
 have y6:((w5.setCell ⟨gx,1,none⟩ (.int .u32 0)).setCell ⟨gx,5,none⟩ (.slice pv (min x.long.length 12 + 1) cv)).frozen? ⟨gx,6,none⟩ = false:=RB'.frozen 6
 have RS:Row (((w5.setCell ⟨gx,1,none⟩ (.int .u32 0)).setCell ⟨gx,5,none⟩ (.slice pv (min x.long.length 12 + 1) cv)).setCell ⟨gx,6,none⟩ (.int .i32 (Sc.dayAt x.first x.long (min x.long.length 12) + 31))) gx #[.int .i64 7,.int .u32 0,.int .u32 0,.string ByteArray.empty,.slice none 0 0,(.slice pv (min x.long.length 12 + 1) cv),.int .i32 (Sc.dayAt x.first x.long (min x.long.length 12) + 31),.int .i64 0] 47:=RB'.set 6 _
 have hst:Stored w5 gx (((w5.setCell ⟨gx,1,none⟩ (.int .u32 0)).setCell ⟨gx,5,none⟩ (.slice pv (min x.long.length 12 + 1) cv)).setCell ⟨gx,6,none⟩ (.int .i32 (Sc.dayAt x.first x.long (min x.long.length 12) + 31))):=(((zaf w5 gx 1 (.int .u32 0)).trans (zaf _ gx 5 (.slice pv (min x.long.length 12 + 1) cv))).trans (zaf _ gx 6 (.int .i32 (Sc.dayAt x.first x.long (min x.long.length 12) + 31))))
 have RRS:=RR5.stored hst (show gr ≠ gx by omega)
 have BS:=hdq (hst.below (zab BB4 hB5) (by have:=B1.size; have:=B2.size; omega))
 have HGR:=hdq (show w.heap.size≤gr by have:=B1.size; omega)
 have hno:Value.ownBlock (.slice pv (min x.long.length 12 + 1) cv) ≠ some gx:=fun e=>by
  obtain ⟨cs2,h⟩:=zbg hO e
  have h2:=h.symm.trans RX5
  simp at h2
 have HOW:=hdq (zak hO hst hno)
 have hno2:Value.ownBlock (.slice pv (min x.long.length 12 + 1) cv) ≠ some gr:=fun e=>by
  obtain ⟨cs2,h⟩:=zbg hO e
  have h2:=h.symm.trans RR5
  simp at h2
 clear hst hno RA RB' hO
 go_wp2_with (first
  | (refine zaq (N:=78) rfl rfl 47 (Operand.tmp 3) rfl gx rfl RS _ Tryz.underlying47 rfl (by kernel_rfl) ?_)
  | (refine zad rfl 47 (Operand.tmp 2) (Operand.tmp 78) rfl gr #[.int .i64 7,.int .u32 0,.int .u32 0,.string ByteArray.empty,.slice none 0 0,(.slice pv (min x.long.length 12 + 1) cv),.int .i32 (Sc.dayAt x.first x.long (min x.long.length 12) + 31),.int .i64 0] rfl rfl RRS (by kernel_rfl) rfl (by kernel_rfl) rfl ?_; intro w9 RZ S9))
 exact bodyPost_ret (v:=.agg #[.int .i64 7,.int .u32 0,.int .u32 0,.string ByteArray.empty,.slice none 0 0,(.slice pv (min x.long.length 12 + 1) cv),.int .i32 (Sc.dayAt x.first x.long (min x.long.length 12) + 31),.int .i64 0]) (zau rfl _ _ RZ rfl Tryz.underlying47 rfl (by kernel_rfl)) rfl ⟨_,_,rfl,zhc _,(NsAt.of_own (zak HOW.out S9 hno2)).1,zby _ _,zjh (zak HOW.out S9 hno2) BB4.size,S9.below BS.out HGR.out⟩
end Go.Proofs.YtlpdfglbdijkoaaGreatDoor