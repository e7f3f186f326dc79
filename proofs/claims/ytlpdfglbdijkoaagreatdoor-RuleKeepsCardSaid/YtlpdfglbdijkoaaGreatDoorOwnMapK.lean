/-
  Own texts, several in one (MapK, Law15b).
-/
import Derived.Test.YtlpdfglbdijkoaaGreatDoorOwnLine10
import Derived.Test.YtlpdfglbdijkoaaGreatDoorOwnNearA
import Derived.Test.YtlpdfglbdijkoaaGreatDoorOwnOf15
namespace Go.Proofs.YtlpdfglbdijkoaaGreatDoor
open Go.RowKit
open Go.Maps (Keyed)
set_option linter.unusedVariables false
set_option linter.unusedSimpArgs false
theorem keyedK:Keyed Tryz.prog 43:=Maps.int_keyed Tryz.underlying43
theorem zhu (w:World):(zeroValue 3).run Tryz.prog w = .ok (.int .i64 0) w:=by kernel_rfl
def encK (n:Int):Value:=.int .i64 n
theorem zen (c d:Int) (h:encK c = encK d):c = d:=by injection h
theorem zfx (n:Int) (h:-9223372036854775808≤n∧n≤9223372036854775807):keyOf Tryz.prog 43 (encK n) = some (.int .i64 n):=Maps.keyOf_int_mk Tryz.underlying43 (by simp [Lit.wf,IntKind.min,IntKind.max,IntKind.bits,IntKind.signed]; omega)
theorem zcx {W w w':World} {b:Nat} (h:Below W.heap.size W w) (hg:w.grownBy w' (some b)) (hb:W.heap.size≤b):Below W.heap.size W w':=h.grown hg h.size (fun k hk=>by injection hk with hk; omega)
theorem map_two (W:World) (n K:Int) (hK:0≤K∧K < 8):∃ w1 w2,(Instr.mapUpdate 54 (.map (some W.heap.size)) (.int .i64 3) (.int .i64 (-1))).run Tryz.prog (W.alloc (.map #[] 0)) = .ok () w1∧(Instr.mapUpdate 54 (.map (some W.heap.size)) (.int .i64 4) (.int .i64 n)).run Tryz.prog w1 = .ok () w2 ∧
  (Instr.lookup 54 (.map (some W.heap.size)) (.int .i64 K) false).run Tryz.prog w2 = .ok (.int .i64 (if K = 3 then -1 else if K = 4 then n else 0)) w2∧Below W.heap.size W w1∧Below W.heap.size W w2:=by
 have hM0:=MapIs.new (κ:=Int) (ν:=Int) W Tryz.prog 43 encK encK
 obtain ⟨w1,hr1,hM1,hg1⟩:=hM0.store (t:=54) (e:=3) keyedK Tryz.underlying54 zen (by unfold maxLen; omega) 3 (-1) (zfx 3 (by omega))
 obtain ⟨w2,hr2,hM2,hg2⟩:=hM1.store (t:=54) (e:=3) keyedK Tryz.underlying54 zen (by unfold maxLen; omega) 4 n (zfx 4 (by omega))
 have hv:getV encK (.int .i64 0) (if K = 4 then some n else if K = 3 then some (-1) else none) = .int .i64 (if K = 3 then -1 else if K = 4 then n else 0):=by
  by_cases c3:K = 3
  ·subst c3; rfl
  ·by_cases c4:K = 4
   ·subst c4; rfl
   ·rw [if_neg c3,if_neg c4,if_neg c4,if_neg c3]; rfl
 have hl:(Instr.lookup 54 (.map (some W.heap.size)) (.int .i64 K) false).run Tryz.prog w2 = .ok (getV encK (.int .i64 0) (if K = 4 then some n else if K = 3 then some (-1) else none)) w2:=hM2.look (t:=54) (e:=3) keyedK Tryz.underlying54 zen (zhu w2) K (zfx K (by omega))
 have b1:=zcx (zaa (Below.refl _ W) (.map #[] 0)) hg1 (Nat.le_refl _)
 have b2:=zcx b1 hg2 (Nat.le_refl _)
 rw [hv] at hl
 exact ⟨w1,w2,hr1,hr2,hl,b1,b2⟩
theorem map_one (W:World) (K:Int) (hK:0≤K∧K < 8):∃ w1,(Instr.mapUpdate 54 (.map (some W.heap.size)) (.int .i64 6) (.int .i64 (-1))).run Tryz.prog (W.alloc (.map #[] 0)) = .ok () w1 ∧
  (Instr.lookup 54 (.map (some W.heap.size)) (.int .i64 K) false).run Tryz.prog w1 = .ok (.int .i64 (if K = 6 then -1 else 0)) w1∧Below W.heap.size W w1:=by
 have hM0:=MapIs.new (κ:=Int) (ν:=Int) W Tryz.prog 43 encK encK
 obtain ⟨w1,hr1,hM1,hg1⟩:=hM0.store (t:=54) (e:=3) keyedK Tryz.underlying54 zen (by unfold maxLen; omega) 6 (-1) (zfx 6 (by omega))
 have hv:getV encK (.int .i64 0) (if K = 6 then some (-1) else none) = .int .i64 (if K = 6 then -1 else 0):=by
  by_cases c3:K = 6
  ·subst c3; rfl
  ·rw [if_neg c3,if_neg c3]; rfl
 have hl:(Instr.lookup 54 (.map (some W.heap.size)) (.int .i64 K) false).run Tryz.prog w1 = .ok (getV encK (.int .i64 0) (if K = 6 then some (-1) else none)) w1:=hM1.look (t:=54) (e:=3) keyedK Tryz.underlying54 zen (zhu w1) K (zfx K (by omega))
 have b1:=zcx (zaa (Below.refl _ W) (.map #[] 0)) hg1 (Nat.le_refl _)
 rw [hv] at hl
 exact ⟨w1,hr1,hl,b1⟩
set_option maxHeartbeats 16000000 in
set_option maxRecDepth 100000 in
theorem zha (a:Option Addr) (cap:Nat) (l:List A6) (pu:Option Addr) (cu:Nat) (lu:List Int) (first:Int) (pl:Option Addr) (cl:Nat) (long:List Int) (aj:Option Addr) (cj:Nat) (lj:List J10) (y:Sc.O) (vp vl:Value) (w:World) (hM:Glb13 w)
  (hE:ElsAt a6 4 a60 w a l) (hok:∀ x ∈ l,x.ok) (hU:NsAt .u16 w (.slice pu lu.length cu) lu) (hub:∀ n ∈ lu,0≤n∧n≤65535)
  (hf:-32768≤first∧first≤32767) (hlb:∀ n ∈ long,0≤n∧n≤255) (hL:NsAt .u8 w (.slice pl long.length cl) long) (hJ:ElsAt j10 2 j100 w aj lj) (hm:lj.length≤9223372036854775807) (hy:y.ok) (hP:PosAt w vp y.parts) (hG:NsAt .u8 w vl y.long) :
  Calls Tryz.prog 3 #[.agg #[.slice a l.length cap,.slice pu lu.length cu,.int .i16 first,.slice pl long.length cl,.slice aj lj.length cj],.agg (ov y vp vl).toArray] w fun e w'=>e = .returned (.bool true)∧Below w.heap.size w w':=by
 obtain ⟨pp,cp,rfl,_⟩:=id hP
 obtain ⟨pg,cg,rfl,_⟩:=id hG
 have BX:=zaa (zaa (Below.refl _ w) (.cells #[.slice a l.length cap,.slice pu lu.length cu,.int .i16 first,.slice pl long.length cl,.slice aj lj.length cj] 28)) (.cells #[.int .u8 (y.kind:Int),.int .u8 (y.a:Int),.int .u8 (y.b:Int),.int .u8 (y.nm:Int),.slice pp y.parts.length cp,.int .i16 y.first,.slice pg y.long.length cg] 31)
 have RX:Row ((w.alloc (.cells #[.slice a l.length cap,.slice pu lu.length cu,.int .i16 first,.slice pl long.length cl,.slice aj lj.length cj] 28)).alloc (.cells #[.int .u8 (y.kind:Int),.int .u8 (y.a:Int),.int .u8 (y.b:Int),.int .u8 (y.nm:Int),.slice pp y.parts.length cp,.int .i16 y.first,.slice pg y.long.length cg] 31)) w.heap.size #[.slice a l.length cap,.slice pu lu.length cu,.int .i16 first,.slice pl long.length cl,.slice aj lj.length cj] 28:=(Row.new w _ _).alloc _
 have RY:Row ((w.alloc (.cells #[.slice a l.length cap,.slice pu lu.length cu,.int .i16 first,.slice pl long.length cl,.slice aj lj.length cj] 28)).alloc (.cells #[.int .u8 (y.kind:Int),.int .u8 (y.a:Int),.int .u8 (y.b:Int),.int .u8 (y.nm:Int),.slice pp y.parts.length cp,.int .i16 y.first,.slice pg y.long.length cg] 31)) (w.heap.size + 1) #[.int .u8 (y.kind:Int),.int .u8 (y.a:Int),.int .u8 (y.b:Int),.int .u8 (y.nm:Int),.slice pp y.parts.length cp,.int .i16 y.first,.slice pg y.long.length cg] 31:=Row.new' _ _ _ (by simp)
 have HA:=hdq (awake15 _ (hM.below BX))
 have HLI:=hdq (fun W (hb:Below w.heap.size w W)=>zrh a cap l.length pu cu lu.length first pl cl long.length aj cj lj W (hJ.below hb) hm)
 have HFR:=hdq (fun W (hb:Below w.heap.size w W) (h2:l.length≤20) (h3:lu.length≤8) (h4:long.length≤8)=>zru a cap l (.slice pu lu.length cu) lu first (.slice pl long.length cl) long (.slice aj lj.length cj) W (hE.below hb) hok h2 (hU.below hb) hub h3 hf hlb h4 (hL.below hb) rfl)
 have HNE:=hdq (fun (f:Fr) (cv uv kv:Value) W (hb:Below w.heap.size w W) (hF:FrAt W cv uv kv f) (h0:0 < f.c.length) (h1:f.c.length≤1000) (h2:0 < f.u.length) (h3:f.u.length≤1000) (h4:∀ z ∈ f.u,0≤z∧z≤65535) (h5:0 < f.k.length) (h6:f.k.length≤1000)=>ztr f.c f.u f.k cv uv kv f.e y _ _ W hF.1 hF.2.1 hF.2.2 h0 h1 h2 h3 h4 h5 h6 hy (hP.below hb) (hG.below hb))
 have HGL:=hdq hM
 unfold ov at *
 clear hM hE hok hU hub hf hlb hL hJ hm hP hG
 go_enter Tryz.func3,Tryz.ntmps3
 go_wp2_with fail
 refine HA.out.mono ?_
 generalize ((w.alloc (.cells #[.slice a l.length cap,.slice pu lu.length cu,.int .i16 first,.slice pl long.length cl,.slice aj lj.length cj] 28)).alloc (.cells #[.int .u8 (y.kind:Int),.int .u8 (y.a:Int),.int .u8 (y.b:Int),.int .u8 (y.nm:Int),.slice pp y.parts.length cp,.int .i16 y.first,.slice pg y.long.length cg] 31)) = w0 at *
 rintro _ w1 ⟨rfl,hb1⟩
 have HB1:=hdq (BX.trans (hb1.mono BX.size))
 have HX1:=hdq (RX.below hb1)
 have HY1:=hdq (RY.below hb1)
 have x0:w1.cell? ⟨w.heap.size,0,none⟩ = some (.slice a l.length cap):=HX1.out.cell 0
 have x1:w1.cell? ⟨w.heap.size,1,none⟩ = some (.slice pu lu.length cu):=HX1.out.cell 1
 have x2:w1.cell? ⟨w.heap.size,2,none⟩ = some (.int .i16 first):=HX1.out.cell 2
 have x3:w1.cell? ⟨w.heap.size,3,none⟩ = some (.slice pl long.length cl):=HX1.out.cell 3
 have x4:w1.cell? ⟨w.heap.size,4,none⟩ = some (.slice aj lj.length cj):=HX1.out.cell 4
 clear HA hb1 RX RY BX
 go_wp2_with fail
 clear x0 x1 x2 x3 x4
 refine (HLI.out w1 HB1.out).mono ?_
 rintro _ w2 ⟨rr,rfl,hr,hb2⟩
 have HB2:=hdq (zab HB1.out hb2)
 have HX2:=hdq (HX1.out.below hb2)
 have HY2:=hdq (HY1.out.below hb2)
 clear hb2 HX1 HY1
 rcases hr with ⟨rfl,h1,h2,h3,h4,h5⟩ | rfl
 case inr =>
  go_wp2_with fail
  exact bodyPost_ret (v:=.bool true) (by simp [results,Tryz.results3,go_sem]) rfl ⟨rfl,HB2.out⟩
 have HL5:=hdq (And.intro h2 (And.intro h3 h4))
 have y0:w2.cell? ⟨(w.heap.size + 1),0,none⟩ = some (.int .u8 (y.kind:Int)):=HY2.out.cell 0
 have y1:w2.cell? ⟨(w.heap.size + 1),1,none⟩ = some (.int .u8 (y.a:Int)):=HY2.out.cell 1
 have y2:w2.cell? ⟨(w.heap.size + 1),2,none⟩ = some (.int .u8 (y.b:Int)):=HY2.out.cell 2
 have y3:w2.cell? ⟨(w.heap.size + 1),3,none⟩ = some (.int .u8 (y.nm:Int)):=HY2.out.cell 3
 have y4:w2.cell? ⟨(w.heap.size + 1),4,none⟩ = some (.slice pp y.parts.length cp):=HY2.out.cell 4
 have y5:w2.cell? ⟨(w.heap.size + 1),5,none⟩ = some (.int .i16 y.first):=HY2.out.cell 5
 have y6:w2.cell? ⟨(w.heap.size + 1),6,none⟩ = some (.slice pg y.long.length cg):=HY2.out.cell 6
 clear h1 h2 h3 h4 h5
 by_cases n1:10 < y.parts.length
 ·have z1:(10:Int) < (y.parts.length:Int):=by omega
  clear n1
  go_wp2_with fail
  exact bodyPost_ret (v:=.bool true) (by simp [results,Tryz.results3,go_sem]) rfl ⟨rfl,HB2.out⟩
 have z1:¬ (10:Int) < (y.parts.length:Int):=by omega
 by_cases n2:12 < y.long.length
 ·have z2:(12:Int) < (y.long.length:Int):=by omega
  clear n1 n2
  go_wp2_with fail
  exact bodyPost_ret (v:=.bool true) (by simp [results,Tryz.results3,go_sem]) rfl ⟨rfl,HB2.out⟩
 have z2:¬ (12:Int) < (y.long.length:Int):=by omega
 have x0:w2.cell? ⟨w.heap.size,0,none⟩ = some (.slice a l.length cap):=HX2.out.cell 0
 have x1:w2.cell? ⟨w.heap.size,1,none⟩ = some (.slice pu lu.length cu):=HX2.out.cell 1
 have x2:w2.cell? ⟨w.heap.size,2,none⟩ = some (.int .i16 first):=HX2.out.cell 2
 have x3:w2.cell? ⟨w.heap.size,3,none⟩ = some (.slice pl long.length cl):=HX2.out.cell 3
 have x4:w2.cell? ⟨w.heap.size,4,none⟩ = some (.slice aj lj.length cj):=HX2.out.cell 4
 clear n1 n2
 go_wp2_with fail
 clear x0 x1 x2 x3 x4 y0 y1 y2 y3 y4 y5 y6 z1 z2
 refine (HFR.out w2 HB2.out HL5.out.1 HL5.out.2.1 HL5.out.2.2).mono ?_
 rintro _ w3 ⟨cv,uv,kv,rfl,hfr,hb3⟩
 have hft:=frok_at hfr (endOf first long)
 obtain ⟨f,hf⟩:∃ f,f = frOf l lu first long:=⟨_,rfl⟩
 have hft:FrAt w3 cv uv kv f:=by rw [hf]; exact hft
 have he:endOf first long = f.e:=by rw [hf]; rfl
 rw [he]
 have hfc:=zla l HL5.out.1
 have hfu:=zmz lu HL5.out.2.1
 have hfk:=zic first long
 have HFC:Hid (0 < f.c.length∧f.c.length≤1000):=hdq (by rw [hf]; exact hfc)
 have HFU:Hid (0 < f.u.length∧f.u.length≤1000∧∀ z ∈ f.u,0≤z∧z≤65535):=hdq (by rw [hf]; exact ⟨hfu.1,hfu.2.1,fun z hz=>by have:=hfu.2.2 z hz; omega⟩)
 have HFK:Hid (0 < f.k.length∧f.k.length≤13):=hdq (by rw [hf]; exact hfk)
 have HRC:Hid (AcRise f.c):=hdq (by rw [hf]; exact zjr l)
 have HRU:Hid (NRise f.u):=hdq (by rw [hf]; exact zia lu)
 have HNM:Hid (nameIn 1000 f.c):=hdq (by rw [hf]; exact zho l)
 have HB3:=hdq (zab HB2.out hb3)
 have HY3:=hdq (HY2.out.below hb3)
 obtain ⟨p1,k1,rfl,_⟩:=id hft.1
 obtain ⟨p2,k2,rfl,_⟩:=id hft.2.1
 obtain ⟨p3,k3,rfl,_⟩:=id hft.2.2
 obtain ⟨wA,hwA⟩:∃ wA,wA = w3.alloc (.cells #[.slice p1 f.c.length k1,.slice p2 f.u.length k2,.slice p3 f.k.length k3,.int .i32 f.e] 41):=⟨_,rfl⟩
 have RFn:Row wA w3.heap.size #[.slice p1 f.c.length k1,.slice p2 f.u.length k2,.slice p3 f.k.length k3,.int .i32 f.e] 41:=by rw [hwA]; exact Row.new w3 _ _
 have HRF3:=hdq RFn
 have HYA:=hdq (show Row wA (w.heap.size + 1) #[.int .u8 (y.kind:Int),.int .u8 (y.a:Int),.int .u8 (y.b:Int),.int .u8 (y.nm:Int),.slice pp y.parts.length cp,.int .i16 y.first,.slice pg y.long.length cg] 31 by rw [hwA]; exact HY3.out.alloc _)
 have HBA:=hdq (show Below w.heap.size w wA by rw [hwA]; exact zaa HB3.out _)
 have HFA:Hid (FrAt wA (.slice p1 f.c.length k1) (.slice p2 f.u.length k2) (.slice p3 f.k.length k3) f):=hdq (by rw [hwA]; exact hft.below (zaa (Below.refl _ w3) _))
 have y0:wA.cell? ⟨(w.heap.size + 1),0,none⟩ = some (.int .u8 (y.kind:Int)):=HYA.out.cell 0
 have y1:wA.cell? ⟨(w.heap.size + 1),1,none⟩ = some (.int .u8 (y.a:Int)):=HYA.out.cell 1
 have y2:wA.cell? ⟨(w.heap.size + 1),2,none⟩ = some (.int .u8 (y.b:Int)):=HYA.out.cell 2
 have y3:wA.cell? ⟨(w.heap.size + 1),3,none⟩ = some (.int .u8 (y.nm:Int)):=HYA.out.cell 3
 have y4:wA.cell? ⟨(w.heap.size + 1),4,none⟩ = some (.slice pp y.parts.length cp):=HYA.out.cell 4
 have y5:wA.cell? ⟨(w.heap.size + 1),5,none⟩ = some (.int .i16 y.first):=HYA.out.cell 5
 have y6:wA.cell? ⟨(w.heap.size + 1),6,none⟩ = some (.slice pg y.long.length cg):=HYA.out.cell 6
 clear hfr hb3 hft hf he hfc hfu hfk RFn HX2 HY2 HL5 HFR
 rw [hwA] at y0 y1 y2 y3 y4 y5 y6
 go_wp2_with fail
 clear y0 y1 y2 y3 y4 y5 y6
 obtain ⟨gF,hgF⟩:∃ g,g = w3.heap.size:=⟨_,rfl⟩
 rw [← hgF] at HRF3 ⊢
 rw [← hwA]
 clear hgF hwA
 refine (HNE.out f _ _ _ wA HBA.out HFA.out HFC.out.1 HFC.out.2 HFU.out.1 HFU.out.2.1 HFU.out.2.2 HFK.out.1 (by have:=HFK.out.2; omega)).mono ?_
 rintro _ w4 ⟨r,vq1,vq2,rfl,hokr,hk0,hk8,hnm,hpl,hb4⟩
 obtain ⟨⟨p7,k7,rfl,_⟩,⟨p8,k8,rfl,_⟩⟩:=id hokr
 unfold rov
 have HB4:=hdq (zab HBA.out hb4)
 obtain ⟨wB,hwB⟩:∃ wB,wB = w4.alloc (.cells #[.int .i64 r.kind,.int .u32 (r.fr:Int),.int .u32 (r.too:Int),.string r.name,.slice p7 r.parts.length k7,.slice p8 r.starts.length k8,.int .i32 r.fin,.int .i64 r.pos] 47):=⟨_,rfl⟩
 have RO:Row wB w4.heap.size #[.int .i64 r.kind,.int .u32 (r.fr:Int),.int .u32 (r.too:Int),.string r.name,.slice p7 r.parts.length k7,.slice p8 r.starts.length k8,.int .i32 r.fin,.int .i64 r.pos] 47:=by rw [hwB]; exact Row.new w4 _ _
 have HRO4:=hdq RO
 have HBB:=hdq (show Below w.heap.size w wB by rw [hwB]; exact zaa HB4.out _)
 have HFB:Hid (FrAt wB (.slice p1 f.c.length k1) (.slice p2 f.u.length k2) (.slice p3 f.k.length k3) f):=hdq (by rw [hwB]; exact (HFA.out.below hb4).below (zaa (Below.refl _ w4) _))
 have HRFB:=hdq (show Row wB gF #[.slice p1 f.c.length k1,.slice p2 f.u.length k2,.slice p3 f.k.length k3,.int .i32 f.e] 41 by rw [hwB]; exact (HRF3.out.below hb4).alloc _)
 have HOB:Hid (okR wB r (.slice p7 r.parts.length k7) (.slice p8 r.starts.length k8)):=hdq (by rw [hwB]; exact hokr.below (zaa (Below.refl _ w4) _))
 have HKK:=hdq (And.intro hk0 (And.intro hk8 (And.intro hnm hpl)))
 have f0:wB.cell? ⟨gF,0,none⟩ = some (.slice p1 f.c.length k1):=HRFB.out.cell 0
 have f1:wB.cell? ⟨gF,1,none⟩ = some (.slice p2 f.u.length k2):=HRFB.out.cell 1
 have f2:wB.cell? ⟨gF,2,none⟩ = some (.slice p3 f.k.length k3):=HRFB.out.cell 2
 have f3:wB.cell? ⟨gF,3,none⟩ = some (.int .i32 f.e):=HRFB.out.cell 3
 clear hokr hk0 hk8 hnm hpl hb4 RO HB4 HRF3 HFA HYA
 rw [hwB] at f0 f1 f2 f3
 go_wp2_with fail
 clear f0 f1 f2 f3
 obtain ⟨gO,hgO⟩:∃ g,g = w4.heap.size:=⟨_,rfl⟩
 rw [← hgO] at HRO4 ⊢
 rw [← hwB]
 clear hgO hwB
 have NX:=ztq f _ _ _ (⟨0,0,false⟩:Sp) r _ _ wB HFB.out HOB.out ⟨Nat.le_trans HFC.out.2 (by omega),Nat.le_trans HFU.out.2.1 (by omega),fun x hx=>Nat.le_trans (HNM.out x hx) (by omega),Nat.le_trans HKK.out.2.2.1 (by omega),HKK.out.2.2.2⟩ HRC.out HRU.out (HGL.out.1.below HBB.out)
 unfold rov at NX
 refine NX.mono ?_
 rintro _ w5 ⟨c',u',q',rfl,hg,hb5⟩
 obtain ⟨R,hR⟩:∃ R,R = nextN f (⟨0,0,false⟩:Sp) r:=⟨_,rfl⟩
 have HKE:=hdq (keeps f (⟨0,0,false⟩:Sp) r HRC.out HRU.out)
 have HER:=hdq (ztp f (⟨0,0,false⟩:Sp) r)
 rw [← hR] at hg HKE HER ⊢
 obtain ⟨E,G⟩:=R
 replace hg:FrAt w5 c' u' q' G:=hg
 obtain ⟨p4,k4,rfl,_⟩:=id hg.1
 obtain ⟨p5,k5,rfl,_⟩:=id hg.2.1
 obtain ⟨p6,k6,rfl,_⟩:=id hg.2.2
 have HB5:=hdq (zab HBB.out hb5)
 obtain ⟨wC,hwC⟩:∃ wC,wC = w5.alloc (.cells #[.slice p4 G.c.length k4,.slice p5 G.u.length k5,.slice p6 G.k.length k6,.int .i32 G.e] 41):=⟨_,rfl⟩
 have RG:Row wC w5.heap.size #[.slice p4 G.c.length k4,.slice p5 G.u.length k5,.slice p6 G.k.length k6,.int .i32 G.e] 41:=by rw [hwC]; exact Row.new w5 _ _
 have HRG:=hdq RG
 have HBC:=hdq (show Below w.heap.size w wC by rw [hwC]; exact zaa HB5.out _)
 have HFC5:Hid (FrAt wC (.slice p1 f.c.length k1) (.slice p2 f.u.length k2) (.slice p3 f.k.length k3) f):=hdq (by rw [hwC]; exact (HFB.out.below hb5).below (zaa (Below.refl _ w5) _))
 have HGC5:Hid (FrAt wC (.slice p4 G.c.length k4) (.slice p5 G.u.length k5) (.slice p6 G.k.length k6) G):=hdq (by rw [hwC]; exact hg.below (zaa (Below.refl _ w5) _))
 have HRFC:=hdq (show Row wC gF #[.slice p1 f.c.length k1,.slice p2 f.u.length k2,.slice p3 f.k.length k3,.int .i32 f.e] 41 by rw [hwC]; exact (HRFB.out.below hb5).alloc _)
 have HROC:=hdq (show Row wC gO #[.int .i64 r.kind,.int .u32 (r.fr:Int),.int .u32 (r.too:Int),.string r.name,.slice p7 r.parts.length k7,.slice p8 r.starts.length k8,.int .i32 r.fin,.int .i64 r.pos] 47 by rw [hwC]; exact (HRO4.out.below hb5).alloc _)
 have g0:wC.cell? ⟨w5.heap.size,0,none⟩ = some (.slice p4 G.c.length k4):=HRG.out.cell 0
 have g1:wC.cell? ⟨w5.heap.size,1,none⟩ = some (.slice p5 G.u.length k5):=HRG.out.cell 1
 have g2:wC.cell? ⟨w5.heap.size,2,none⟩ = some (.slice p6 G.k.length k6):=HRG.out.cell 2
 have g3:wC.cell? ⟨w5.heap.size,3,none⟩ = some (.int .i32 G.e):=HRG.out.cell 3
 have f0:wC.cell? ⟨gF,0,none⟩ = some (.slice p1 f.c.length k1):=HRFC.out.cell 0
 have f1:wC.cell? ⟨gF,1,none⟩ = some (.slice p2 f.u.length k2):=HRFC.out.cell 1
 have f2:wC.cell? ⟨gF,2,none⟩ = some (.slice p3 f.k.length k3):=HRFC.out.cell 2
 have f3:wC.cell? ⟨gF,3,none⟩ = some (.int .i32 f.e):=HRFC.out.cell 3
 have o0:wC.cell? ⟨gO,0,none⟩ = some (.int .i64 r.kind):=HROC.out.cell 0
 have o1:wC.cell? ⟨gO,1,none⟩ = some (.int .u32 (r.fr:Int)):=HROC.out.cell 1
 have o2:wC.cell? ⟨gO,2,none⟩ = some (.int .u32 (r.too:Int)):=HROC.out.cell 2
 have o3:wC.cell? ⟨gO,3,none⟩ = some (.string r.name):=HROC.out.cell 3
 have o4:wC.cell? ⟨gO,4,none⟩ = some (.slice p7 r.parts.length k7):=HROC.out.cell 4
 have o5:wC.cell? ⟨gO,5,none⟩ = some (.slice p8 r.starts.length k8):=HROC.out.cell 5
 have o6:wC.cell? ⟨gO,6,none⟩ = some (.int .i32 r.fin):=HROC.out.cell 6
 have o7:wC.cell? ⟨gO,7,none⟩ = some (.int .i64 r.pos):=HROC.out.cell 7
 clear hg hb5 RG HB5 HRFB HRO4 HFB HOB NX hR
 rw [hwC] at g0 g1 g2 g3 f0 f1 f2 f3 o0 o1 o2 o3 o4 o5 o6 o7
 dsimp only
 by_cases e0:E = 0
 case neg =>
  have hG0:G = fr0:=HER.out e0
  have ze:((E:Int) == 0) = false:=beq_eq_false_iff_ne.2 (by omega)
  subst hG0
  go_wp2_with fail
  exact bodyPost_ret (v:=.bool true) (by simp [results,Tryz.results3,go_sem,fr0]) rfl ⟨rfl,by have:=HBC.out; rw [hwC] at this; exact this⟩
 subst e0
 have hke:=HKE.out rfl
 have ze:((0:Int) == 0) = true:=rfl
 have mm:∀ (t:TypeId) (W:World),(Instr.makeMap t none).run Tryz.prog W = .ok (.map (some W.heap.size)) (W.alloc (.map #[] 0)):=fun _ _=>rfl
 have hsz:wC.heap.size = w5.heap.size + 1:=by rw [hwC]; simp
 obtain ⟨m1,m2,ru1,ru2,rl,bm1,bm2⟩:=map_two wC ((r.parts.length:Int) - 1) r.kind ⟨hke.1,hke.2.1⟩
 obtain ⟨m3,ru3,rl3,bm3⟩:=map_one m2 r.kind ⟨hke.1,hke.2.1⟩
 have HRO1:=hdq (HROC.out.below bm1)
 have HRO2:=hdq (HROC.out.below bm2)
 have HRO3:=hdq (HRO2.out.below bm3)
 have HRF3:=hdq ((HRFC.out.below bm2).below bm3)
 have HRG3:=hdq ((HRG.out.below bm2).below bm3)
 have HFm:=hdq ((HFC5.out.below bm2).below bm3)
 have HGm:=hdq ((HGC5.out.below bm2).below bm3)
 have HBm:=hdq (zab (HBC.out.trans (bm2.mono HBC.out.size)) bm3)
 have HKE2:=hdq hke
 rw [hsz] at ru1 ru2 rl
 rw [hwC] at ru1
 have wn:IntKind.i64.wrap ((r.parts.length:Int) - 1) = (r.parts.length:Int) - 1:=by rw [IntKind.wrap_i64]; have:=HKK.out.2.2.2; omega
 have u4:m1.cell? ⟨gO,4,none⟩ = some (.slice p7 r.parts.length k7):=HRO1.out.cell 4
 have u0:m2.cell? ⟨gO,0,none⟩ = some (.int .i64 r.kind):=HRO2.out.cell 0
 have t0:m3.cell? ⟨gO,0,none⟩ = some (.int .i64 r.kind):=HRO3.out.cell 0
 obtain ⟨K,hK⟩:∃ K,K = r.kind:=⟨_,rfl⟩
 have hK8:0≤K∧K < 8:=by rw [hK]; exact ⟨hke.1,hke.2.1⟩
 rw [← hK] at o0 u0 t0 rl rl3
 have HKq:=hdq hK
 clear bm1 bm2 bm3 hsz hwC hke hK HRO1 HRO2 HROC HRFC HRG HFC5 HGC5 HER HKE
 rcases (show (0≤K∧K < 3)∨K = 3∨K = 4∨K = 5∨K = 6∨K = 7 by omega) with hK3 | rfl | rfl | rfl | rfl | rfl
 ·have q1:(if K = 3 then (-1:Int) else if K = 4 then ((r.parts.length:Int) - 1) else 0) = 0:=by rw [if_neg (by omega),if_neg (by omega)]
  have q2:(if K = 6 then (-1:Int) else 0) = 0:=by rw [if_neg (by omega)]
  have z7:(K == 7) = false:=beq_eq_false_iff_ne.2 (by omega)
  have z77:(K != 7) = true:=by rw [bne,z7]; rfl
  have HK3:=hdq hK3
  rw [q1] at rl
  rw [q2] at rl3
  clear q1 q2 hK8 hK3
  have hcl:(G.c.length:Int) = f.c.length + 0:=by have h:=HKE2.out.2.2.2.2.2.1; unfold accN at h; rw [← HKq.out] at h; rw [if_neg (by have:=HK3.out; omega),if_neg (by have:=HK3.out; omega)] at h; exact h
  have hul:(G.u.length:Int) = f.u.length + 0:=by have h:=HKE2.out.2.2.2.2.2.2; rw [← HKq.out] at h; rw [if_neg (by have:=HK3.out; omega)] at h; exact h
  have HGU:Hid (G.u = f.u):=hdq (HKE2.out.2.2.1 (by rw [← HKq.out]; have:=HK3.out; omega) (by rw [← HKq.out]; have:=HK3.out; omega))
  have HGK:Hid (G.k = f.k∧G.e = f.e):=hdq (HKE2.out.2.2.2.1 (by rw [← HKq.out]; have:=HK3.out; omega))
  have wc1:IntKind.i64.wrap ((f.c.length:Int) + 0) = (G.c.length:Int):=by rw [IntKind.wrap_i64]; have:=HFC.out.2; have:=HKK.out.2.2.2; omega
  have wu1:IntKind.i64.wrap ((f.u.length:Int) + 0) = (G.u.length:Int):=by rw [IntKind.wrap_i64]; have:=HFU.out.2.1; omega
  have wc2:IntKind.i64.wrap (f.c.length:Int) = (G.c.length:Int):=by rw [IntKind.wrap_i64]; have:=HFC.out.2; omega
  have wu2:IntKind.i64.wrap (f.u.length:Int) = (G.u.length:Int):=by rw [IntKind.wrap_i64]; have:=HFU.out.2.1; omega
  clear hcl hul
  clear f0 f1 f2 f3 g0 g1 g2 g3
  have f0:m3.cell? ⟨gF,0,none⟩ = some (.slice p1 f.c.length k1):=HRF3.out.cell 0
  have g0:m3.cell? ⟨w5.heap.size,0,none⟩ = some (.slice p4 G.c.length k4):=HRG3.out.cell 0
  have f1:m3.cell? ⟨gF,1,none⟩ = some (.slice p2 f.u.length k2):=HRF3.out.cell 1
  have g1:m3.cell? ⟨w5.heap.size,1,none⟩ = some (.slice p5 G.u.length k5):=HRG3.out.cell 1
  have f2:m3.cell? ⟨gF,2,none⟩ = some (.slice p3 f.k.length k3):=HRF3.out.cell 2
  have g2:m3.cell? ⟨w5.heap.size,2,none⟩ = some (.slice p6 G.k.length k6):=HRG3.out.cell 2
  have f3:m3.cell? ⟨gF,3,none⟩ = some (.int .i32 f.e):=HRF3.out.cell 3
  have g3:m3.cell? ⟨w5.heap.size,3,none⟩ = some (.int .i32 G.e):=HRG3.out.cell 3
  go_wp2_with fail
  refine (zba K m3).mono ?_
  rintro _ wq ⟨rfl,hwq⟩
  rw [hwq]
  clear hwq wq
  rw [show (decide ((K:Int) = 5) || decide ((K:Int) = 6)) = false from by rw [decide_eq_false (by have:=HK3.out; omega),decide_eq_false (by have:=HK3.out; omega)]; rfl]
  have HN2:Hid (NsAt .u16 m3 (.slice p5 G.u.length k5) f.u):=hdq (by have h:=HGm.out.2.1; rw [HGU.out] at h ⊢; exact h)
  go_wp2_with fail
  refine (zdf _ _ f.u m3 HFm.out.2.1 HN2.out (by have:=HFU.out.2.1; omega)).mono ?_
  rintro _ v1 ⟨rfl,hb⟩
  have HO1:=hdq (HRO3.out.below hb)
  have HF1:=hdq (HRF3.out.below hb)
  have HG1:=hdq (HRG3.out.below hb)
  have HA1:=hdq (HFm.out.below hb)
  have HB1:=hdq (HGm.out.below hb)
  have HE1:=hdq (zab HBm.out hb)
  clear hb f0 f1 f2 f3 g0 g1 g2 g3 t0 u0 u4 ru1 ru2 rl ru3 rl3 mm o0 o1 o2 o3 o4 o5 o6 o7
  have t0:v1.cell? ⟨gO,0,none⟩ = some (.int .i64 K):=by rw [HKq.out]; exact HO1.out.cell 0
  have f0:v1.cell? ⟨gF,0,none⟩ = some (.slice p1 f.c.length k1):=HF1.out.cell 0
  have g0:v1.cell? ⟨w5.heap.size,0,none⟩ = some (.slice p4 G.c.length k4):=HG1.out.cell 0
  have f1:v1.cell? ⟨gF,1,none⟩ = some (.slice p2 f.u.length k2):=HF1.out.cell 1
  have g1:v1.cell? ⟨w5.heap.size,1,none⟩ = some (.slice p5 G.u.length k5):=HG1.out.cell 1
  have f2:v1.cell? ⟨gF,2,none⟩ = some (.slice p3 f.k.length k3):=HF1.out.cell 2
  have g2:v1.cell? ⟨w5.heap.size,2,none⟩ = some (.slice p6 G.k.length k6):=HG1.out.cell 2
  have f3:v1.cell? ⟨gF,3,none⟩ = some (.int .i32 f.e):=HF1.out.cell 3
  have g3:v1.cell? ⟨w5.heap.size,3,none⟩ = some (.int .i32 G.e):=HG1.out.cell 3
  have CS:=zdj _ _ f.k G.k f.e G.e v1 HA1.out.2.2 HB1.out.2.2 (by have:=HFK.out.2; omega)
  rw [decide_eq_true HGK.out.2.symm,decide_eq_true HGK.out.1.symm] at CS
  have HCS:=hdq CS
  clear CS
  go_wp2_with fail
  refine (HCS.out).mono ?_
  rintro _ v2 ⟨rfl,hb⟩
  have HO2:=hdq (HO1.out.below hb)
  have HF2:=hdq (HF1.out.below hb)
  have HG2:=hdq (HG1.out.below hb)
  have HA2:=hdq (HA1.out.below hb)
  have HB2:=hdq (HB1.out.below hb)
  have HE2:=hdq (zab HE1.out hb)
  clear hb f0 f1 f2 f3 g0 g1 g2 g3 t0
  have t0:v2.cell? ⟨gO,0,none⟩ = some (.int .i64 K):=by rw [HKq.out]; exact HO2.out.cell 0
  have f0:v2.cell? ⟨gF,0,none⟩ = some (.slice p1 f.c.length k1):=HF2.out.cell 0
  have g0:v2.cell? ⟨w5.heap.size,0,none⟩ = some (.slice p4 G.c.length k4):=HG2.out.cell 0
  have f1:v2.cell? ⟨gF,1,none⟩ = some (.slice p2 f.u.length k2):=HF2.out.cell 1
  have g1:v2.cell? ⟨w5.heap.size,1,none⟩ = some (.slice p5 G.u.length k5):=HG2.out.cell 1
  have f2:v2.cell? ⟨gF,2,none⟩ = some (.slice p3 f.k.length k3):=HF2.out.cell 2
  have g2:v2.cell? ⟨w5.heap.size,2,none⟩ = some (.slice p6 G.k.length k6):=HG2.out.cell 2
  have f3:v2.cell? ⟨gF,3,none⟩ = some (.int .i32 f.e):=HF2.out.cell 3
  have g3:v2.cell? ⟨w5.heap.size,3,none⟩ = some (.int .i32 G.e):=HG2.out.cell 3
  go_wp2_with fail
  refine (zba K v2).mono ?_
  rintro _ wq ⟨rfl,hwq⟩
  rw [hwq]
  clear hwq wq
  rw [show (decide ((K:Int) = 5) || decide ((K:Int) = 6)) = false from by rw [decide_eq_false (by have:=HK3.out; omega),decide_eq_false (by have:=HK3.out; omega)]; rfl]
  go_wp2_with fail
  exact bodyPost_ret (v:=.bool true) (by simp [results,Tryz.results3,go_sem]) rfl ⟨rfl,HE2.out⟩
 ·have q1:(if (3:Int) = 3 then (-1:Int) else if (3:Int) = 4 then ((r.parts.length:Int) - 1) else 0) = -1:=rfl
  have q2:(if (3:Int) = 6 then (-1:Int) else 0) = 0:=rfl
  rw [q1] at rl
  rw [q2] at rl3
  clear q1 q2 hK8
  have hcl:(G.c.length:Int) = f.c.length + -1:=by have h:=HKE2.out.2.2.2.2.2.1; unfold accN at h; rw [← HKq.out] at h; exact h
  have hul:(G.u.length:Int) = f.u.length + 0:=by have h:=HKE2.out.2.2.2.2.2.2; rw [← HKq.out] at h; exact h
  have HGU:Hid (G.u = f.u):=hdq (HKE2.out.2.2.1 (by rw [← HKq.out]; decide) (by rw [← HKq.out]; decide))
  have HGK:Hid (G.k = f.k∧G.e = f.e):=hdq (HKE2.out.2.2.2.1 (by rw [← HKq.out]; decide))
  have wc1:IntKind.i64.wrap ((f.c.length:Int) + -1) = (G.c.length:Int):=by rw [IntKind.wrap_i64]; have:=HFC.out.2; have:=HKK.out.2.2.2; omega
  have wu1:IntKind.i64.wrap ((f.u.length:Int) + 0) = (G.u.length:Int):=by rw [IntKind.wrap_i64]; have:=HFU.out.2.1; omega
  have wu2:IntKind.i64.wrap (f.u.length:Int) = (G.u.length:Int):=by rw [IntKind.wrap_i64]; have:=HFU.out.2.1; omega
  clear hcl hul
  clear f0 f1 f2 f3 g0 g1 g2 g3
  have f0:m3.cell? ⟨gF,0,none⟩ = some (.slice p1 f.c.length k1):=HRF3.out.cell 0
  have g0:m3.cell? ⟨w5.heap.size,0,none⟩ = some (.slice p4 G.c.length k4):=HRG3.out.cell 0
  have f1:m3.cell? ⟨gF,1,none⟩ = some (.slice p2 f.u.length k2):=HRF3.out.cell 1
  have g1:m3.cell? ⟨w5.heap.size,1,none⟩ = some (.slice p5 G.u.length k5):=HRG3.out.cell 1
  have f2:m3.cell? ⟨gF,2,none⟩ = some (.slice p3 f.k.length k3):=HRF3.out.cell 2
  have g2:m3.cell? ⟨w5.heap.size,2,none⟩ = some (.slice p6 G.k.length k6):=HRG3.out.cell 2
  have f3:m3.cell? ⟨gF,3,none⟩ = some (.int .i32 f.e):=HRF3.out.cell 3
  have g3:m3.cell? ⟨w5.heap.size,3,none⟩ = some (.int .i32 G.e):=HRG3.out.cell 3
  go_wp2_with fail
  refine (zba 3 m3).mono ?_
  rintro _ wq ⟨rfl,hwq⟩
  rw [hwq]
  clear hwq wq
  rw [show (decide ((3:Int) = 5) || decide ((3:Int) = 6)) = false from rfl]
  have HN2:Hid (NsAt .u16 m3 (.slice p5 G.u.length k5) f.u):=hdq (by have h:=HGm.out.2.1; rw [HGU.out] at h ⊢; exact h)
  go_wp2_with fail
  refine (zdf _ _ f.u m3 HFm.out.2.1 HN2.out (by have:=HFU.out.2.1; omega)).mono ?_
  rintro _ v1 ⟨rfl,hb⟩
  have HO1:=hdq (HRO3.out.below hb)
  have HF1:=hdq (HRF3.out.below hb)
  have HG1:=hdq (HRG3.out.below hb)
  have HA1:=hdq (HFm.out.below hb)
  have HB1:=hdq (HGm.out.below hb)
  have HE1:=hdq (zab HBm.out hb)
  clear hb f0 f1 f2 f3 g0 g1 g2 g3 t0 u0 u4 ru1 ru2 rl ru3 rl3 mm o0 o1 o2 o3 o4 o5 o6 o7
  have t0:v1.cell? ⟨gO,0,none⟩ = some (.int .i64 3):=by rw [HKq.out]; exact HO1.out.cell 0
  have f0:v1.cell? ⟨gF,0,none⟩ = some (.slice p1 f.c.length k1):=HF1.out.cell 0
  have g0:v1.cell? ⟨w5.heap.size,0,none⟩ = some (.slice p4 G.c.length k4):=HG1.out.cell 0
  have f1:v1.cell? ⟨gF,1,none⟩ = some (.slice p2 f.u.length k2):=HF1.out.cell 1
  have g1:v1.cell? ⟨w5.heap.size,1,none⟩ = some (.slice p5 G.u.length k5):=HG1.out.cell 1
  have f2:v1.cell? ⟨gF,2,none⟩ = some (.slice p3 f.k.length k3):=HF1.out.cell 2
  have g2:v1.cell? ⟨w5.heap.size,2,none⟩ = some (.slice p6 G.k.length k6):=HG1.out.cell 2
  have f3:v1.cell? ⟨gF,3,none⟩ = some (.int .i32 f.e):=HF1.out.cell 3
  have g3:v1.cell? ⟨w5.heap.size,3,none⟩ = some (.int .i32 G.e):=HG1.out.cell 3
  have CS:=zdj _ _ f.k G.k f.e G.e v1 HA1.out.2.2 HB1.out.2.2 (by have:=HFK.out.2; omega)
  rw [decide_eq_true HGK.out.2.symm,decide_eq_true HGK.out.1.symm] at CS
  have HCS:=hdq CS
  clear CS
  go_wp2_with fail
  refine (HCS.out).mono ?_
  rintro _ v2 ⟨rfl,hb⟩
  have HO2:=hdq (HO1.out.below hb)
  have HF2:=hdq (HF1.out.below hb)
  have HG2:=hdq (HG1.out.below hb)
  have HA2:=hdq (HA1.out.below hb)
  have HB2:=hdq (HB1.out.below hb)
  have HE2:=hdq (zab HE1.out hb)
  clear hb f0 f1 f2 f3 g0 g1 g2 g3 t0
  have t0:v2.cell? ⟨gO,0,none⟩ = some (.int .i64 3):=by rw [HKq.out]; exact HO2.out.cell 0
  have f0:v2.cell? ⟨gF,0,none⟩ = some (.slice p1 f.c.length k1):=HF2.out.cell 0
  have g0:v2.cell? ⟨w5.heap.size,0,none⟩ = some (.slice p4 G.c.length k4):=HG2.out.cell 0
  have f1:v2.cell? ⟨gF,1,none⟩ = some (.slice p2 f.u.length k2):=HF2.out.cell 1
  have g1:v2.cell? ⟨w5.heap.size,1,none⟩ = some (.slice p5 G.u.length k5):=HG2.out.cell 1
  have f2:v2.cell? ⟨gF,2,none⟩ = some (.slice p3 f.k.length k3):=HF2.out.cell 2
  have g2:v2.cell? ⟨w5.heap.size,2,none⟩ = some (.slice p6 G.k.length k6):=HG2.out.cell 2
  have f3:v2.cell? ⟨gF,3,none⟩ = some (.int .i32 f.e):=HF2.out.cell 3
  have g3:v2.cell? ⟨w5.heap.size,3,none⟩ = some (.int .i32 G.e):=HG2.out.cell 3
  go_wp2_with fail
  refine (zba 3 v2).mono ?_
  rintro _ wq ⟨rfl,hwq⟩
  rw [hwq]
  clear hwq wq
  rw [show (decide ((3:Int) = 5) || decide ((3:Int) = 6)) = false from rfl]
  go_wp2_with fail
  exact bodyPost_ret (v:=.bool true) (by simp [results,Tryz.results3,go_sem]) rfl ⟨rfl,HE2.out⟩
 ·have q1:(if (4:Int) = 3 then (-1:Int) else if (4:Int) = 4 then ((r.parts.length:Int) - 1) else 0) = ((r.parts.length:Int) - 1):=rfl
  have q2:(if (4:Int) = 6 then (-1:Int) else 0) = 0:=rfl
  rw [q1] at rl
  rw [q2] at rl3
  clear q1 q2 hK8
  have hcl:(G.c.length:Int) = f.c.length + ((r.parts.length:Int) - 1):=by have h:=HKE2.out.2.2.2.2.2.1; unfold accN at h; rw [← HKq.out] at h; exact h
  have hul:(G.u.length:Int) = f.u.length + 0:=by have h:=HKE2.out.2.2.2.2.2.2; rw [← HKq.out] at h; exact h
  have HGU:Hid (G.u = f.u):=hdq (HKE2.out.2.2.1 (by rw [← HKq.out]; decide) (by rw [← HKq.out]; decide))
  have HGK:Hid (G.k = f.k∧G.e = f.e):=hdq (HKE2.out.2.2.2.1 (by rw [← HKq.out]; decide))
  have wc1:IntKind.i64.wrap ((f.c.length:Int) + ((r.parts.length:Int) - 1)) = (G.c.length:Int):=by rw [IntKind.wrap_i64]; have:=HFC.out.2; have:=HKK.out.2.2.2; omega
  have wu1:IntKind.i64.wrap ((f.u.length:Int) + 0) = (G.u.length:Int):=by rw [IntKind.wrap_i64]; have:=HFU.out.2.1; omega
  have wu2:IntKind.i64.wrap (f.u.length:Int) = (G.u.length:Int):=by rw [IntKind.wrap_i64]; have:=HFU.out.2.1; omega
  clear hcl hul
  clear f0 f1 f2 f3 g0 g1 g2 g3
  have f0:m3.cell? ⟨gF,0,none⟩ = some (.slice p1 f.c.length k1):=HRF3.out.cell 0
  have g0:m3.cell? ⟨w5.heap.size,0,none⟩ = some (.slice p4 G.c.length k4):=HRG3.out.cell 0
  have f1:m3.cell? ⟨gF,1,none⟩ = some (.slice p2 f.u.length k2):=HRF3.out.cell 1
  have g1:m3.cell? ⟨w5.heap.size,1,none⟩ = some (.slice p5 G.u.length k5):=HRG3.out.cell 1
  have f2:m3.cell? ⟨gF,2,none⟩ = some (.slice p3 f.k.length k3):=HRF3.out.cell 2
  have g2:m3.cell? ⟨w5.heap.size,2,none⟩ = some (.slice p6 G.k.length k6):=HRG3.out.cell 2
  have f3:m3.cell? ⟨gF,3,none⟩ = some (.int .i32 f.e):=HRF3.out.cell 3
  have g3:m3.cell? ⟨w5.heap.size,3,none⟩ = some (.int .i32 G.e):=HRG3.out.cell 3
  go_wp2_with fail
  refine (zba 4 m3).mono ?_
  rintro _ wq ⟨rfl,hwq⟩
  rw [hwq]
  clear hwq wq
  rw [show (decide ((4:Int) = 5) || decide ((4:Int) = 6)) = false from rfl]
  have HN2:Hid (NsAt .u16 m3 (.slice p5 G.u.length k5) f.u):=hdq (by have h:=HGm.out.2.1; rw [HGU.out] at h ⊢; exact h)
  go_wp2_with fail
  refine (zdf _ _ f.u m3 HFm.out.2.1 HN2.out (by have:=HFU.out.2.1; omega)).mono ?_
  rintro _ v1 ⟨rfl,hb⟩
  have HO1:=hdq (HRO3.out.below hb)
  have HF1:=hdq (HRF3.out.below hb)
  have HG1:=hdq (HRG3.out.below hb)
  have HA1:=hdq (HFm.out.below hb)
  have HB1:=hdq (HGm.out.below hb)
  have HE1:=hdq (zab HBm.out hb)
  clear hb f0 f1 f2 f3 g0 g1 g2 g3 t0 u0 u4 ru1 ru2 rl ru3 rl3 mm o0 o1 o2 o3 o4 o5 o6 o7
  have t0:v1.cell? ⟨gO,0,none⟩ = some (.int .i64 4):=by rw [HKq.out]; exact HO1.out.cell 0
  have f0:v1.cell? ⟨gF,0,none⟩ = some (.slice p1 f.c.length k1):=HF1.out.cell 0
  have g0:v1.cell? ⟨w5.heap.size,0,none⟩ = some (.slice p4 G.c.length k4):=HG1.out.cell 0
  have f1:v1.cell? ⟨gF,1,none⟩ = some (.slice p2 f.u.length k2):=HF1.out.cell 1
  have g1:v1.cell? ⟨w5.heap.size,1,none⟩ = some (.slice p5 G.u.length k5):=HG1.out.cell 1
  have f2:v1.cell? ⟨gF,2,none⟩ = some (.slice p3 f.k.length k3):=HF1.out.cell 2
  have g2:v1.cell? ⟨w5.heap.size,2,none⟩ = some (.slice p6 G.k.length k6):=HG1.out.cell 2
  have f3:v1.cell? ⟨gF,3,none⟩ = some (.int .i32 f.e):=HF1.out.cell 3
  have g3:v1.cell? ⟨w5.heap.size,3,none⟩ = some (.int .i32 G.e):=HG1.out.cell 3
  have CS:=zdj _ _ f.k G.k f.e G.e v1 HA1.out.2.2 HB1.out.2.2 (by have:=HFK.out.2; omega)
  rw [decide_eq_true HGK.out.2.symm,decide_eq_true HGK.out.1.symm] at CS
  have HCS:=hdq CS
  clear CS
  go_wp2_with fail
  refine (HCS.out).mono ?_
  rintro _ v2 ⟨rfl,hb⟩
  have HO2:=hdq (HO1.out.below hb)
  have HF2:=hdq (HF1.out.below hb)
  have HG2:=hdq (HG1.out.below hb)
  have HA2:=hdq (HA1.out.below hb)
  have HB2:=hdq (HB1.out.below hb)
  have HE2:=hdq (zab HE1.out hb)
  clear hb f0 f1 f2 f3 g0 g1 g2 g3 t0
  have t0:v2.cell? ⟨gO,0,none⟩ = some (.int .i64 4):=by rw [HKq.out]; exact HO2.out.cell 0
  have f0:v2.cell? ⟨gF,0,none⟩ = some (.slice p1 f.c.length k1):=HF2.out.cell 0
  have g0:v2.cell? ⟨w5.heap.size,0,none⟩ = some (.slice p4 G.c.length k4):=HG2.out.cell 0
  have f1:v2.cell? ⟨gF,1,none⟩ = some (.slice p2 f.u.length k2):=HF2.out.cell 1
  have g1:v2.cell? ⟨w5.heap.size,1,none⟩ = some (.slice p5 G.u.length k5):=HG2.out.cell 1
  have f2:v2.cell? ⟨gF,2,none⟩ = some (.slice p3 f.k.length k3):=HF2.out.cell 2
  have g2:v2.cell? ⟨w5.heap.size,2,none⟩ = some (.slice p6 G.k.length k6):=HG2.out.cell 2
  have f3:v2.cell? ⟨gF,3,none⟩ = some (.int .i32 f.e):=HF2.out.cell 3
  have g3:v2.cell? ⟨w5.heap.size,3,none⟩ = some (.int .i32 G.e):=HG2.out.cell 3
  go_wp2_with fail
  refine (zba 4 v2).mono ?_
  rintro _ wq ⟨rfl,hwq⟩
  rw [hwq]
  clear hwq wq
  rw [show (decide ((4:Int) = 5) || decide ((4:Int) = 6)) = false from rfl]
  go_wp2_with fail
  exact bodyPost_ret (v:=.bool true) (by simp [results,Tryz.results3,go_sem]) rfl ⟨rfl,HE2.out⟩
 ·have q1:(if (5:Int) = 3 then (-1:Int) else if (5:Int) = 4 then ((r.parts.length:Int) - 1) else 0) = 0:=rfl
  have q2:(if (5:Int) = 6 then (-1:Int) else 0) = 0:=rfl
  rw [q1] at rl
  rw [q2] at rl3
  clear q1 q2 hK8
  have hcl:(G.c.length:Int) = f.c.length + 0:=by have h:=HKE2.out.2.2.2.2.2.1; unfold accN at h; rw [← HKq.out] at h; exact h
  have hul:(G.u.length:Int) = f.u.length + 0:=by have h:=HKE2.out.2.2.2.2.2.2; rw [← HKq.out] at h; exact h
  have HGK:Hid (G.k = f.k∧G.e = f.e):=hdq (HKE2.out.2.2.2.1 (by rw [← HKq.out]; decide))
  have HGC:Hid (G.c = f.c):=hdq (HKE2.out.2.2.2.2.1 (by rw [← HKq.out]; decide))
  have wc1:IntKind.i64.wrap ((f.c.length:Int) + 0) = (G.c.length:Int):=by rw [IntKind.wrap_i64]; have:=HFC.out.2; have:=HKK.out.2.2.2; omega
  have wu1:IntKind.i64.wrap ((f.u.length:Int) + 0) = (G.u.length:Int):=by rw [IntKind.wrap_i64]; have:=HFU.out.2.1; omega
  have wc2:IntKind.i64.wrap (f.c.length:Int) = (G.c.length:Int):=by rw [IntKind.wrap_i64]; have:=HFC.out.2; omega
  have wu2:IntKind.i64.wrap (f.u.length:Int) = (G.u.length:Int):=by rw [IntKind.wrap_i64]; have:=HFU.out.2.1; omega
  clear hcl hul
  clear f0 f1 f2 f3 g0 g1 g2 g3
  have f0:m3.cell? ⟨gF,0,none⟩ = some (.slice p1 f.c.length k1):=HRF3.out.cell 0
  have g0:m3.cell? ⟨w5.heap.size,0,none⟩ = some (.slice p4 G.c.length k4):=HRG3.out.cell 0
  have f1:m3.cell? ⟨gF,1,none⟩ = some (.slice p2 f.u.length k2):=HRF3.out.cell 1
  have g1:m3.cell? ⟨w5.heap.size,1,none⟩ = some (.slice p5 G.u.length k5):=HRG3.out.cell 1
  have f2:m3.cell? ⟨gF,2,none⟩ = some (.slice p3 f.k.length k3):=HRF3.out.cell 2
  have g2:m3.cell? ⟨w5.heap.size,2,none⟩ = some (.slice p6 G.k.length k6):=HRG3.out.cell 2
  have f3:m3.cell? ⟨gF,3,none⟩ = some (.int .i32 f.e):=HRF3.out.cell 3
  have g3:m3.cell? ⟨w5.heap.size,3,none⟩ = some (.int .i32 G.e):=HRG3.out.cell 3
  go_wp2_with fail
  refine (zba 5 m3).mono ?_
  rintro _ wq ⟨rfl,hwq⟩
  rw [hwq]
  clear hwq wq
  rw [show (decide ((5:Int) = 5) || decide ((5:Int) = 6)) = true from rfl]
  have CS:=zdj _ _ f.k G.k f.e G.e m3 HFm.out.2.2 HGm.out.2.2 (by have:=HFK.out.2; omega)
  rw [decide_eq_true HGK.out.2.symm,decide_eq_true HGK.out.1.symm] at CS
  have HCS:=hdq CS
  clear CS
  go_wp2_with fail
  refine (HCS.out).mono ?_
  rintro _ v1 ⟨rfl,hb⟩
  have HO1:=hdq (HRO3.out.below hb)
  have HF1:=hdq (HRF3.out.below hb)
  have HG1:=hdq (HRG3.out.below hb)
  have HA1:=hdq (HFm.out.below hb)
  have HB1:=hdq (HGm.out.below hb)
  have HE1:=hdq (zab HBm.out hb)
  clear hb f0 f1 f2 f3 g0 g1 g2 g3 t0 u0 u4 ru1 ru2 rl ru3 rl3 mm o0 o1 o2 o3 o4 o5 o6 o7
  have t0:v1.cell? ⟨gO,0,none⟩ = some (.int .i64 5):=by rw [HKq.out]; exact HO1.out.cell 0
  have f0:v1.cell? ⟨gF,0,none⟩ = some (.slice p1 f.c.length k1):=HF1.out.cell 0
  have g0:v1.cell? ⟨w5.heap.size,0,none⟩ = some (.slice p4 G.c.length k4):=HG1.out.cell 0
  have f1:v1.cell? ⟨gF,1,none⟩ = some (.slice p2 f.u.length k2):=HF1.out.cell 1
  have g1:v1.cell? ⟨w5.heap.size,1,none⟩ = some (.slice p5 G.u.length k5):=HG1.out.cell 1
  have f2:v1.cell? ⟨gF,2,none⟩ = some (.slice p3 f.k.length k3):=HF1.out.cell 2
  have g2:v1.cell? ⟨w5.heap.size,2,none⟩ = some (.slice p6 G.k.length k6):=HG1.out.cell 2
  have f3:v1.cell? ⟨gF,3,none⟩ = some (.int .i32 f.e):=HF1.out.cell 3
  have g3:v1.cell? ⟨w5.heap.size,3,none⟩ = some (.int .i32 G.e):=HG1.out.cell 3
  go_wp2_with fail
  refine (zba 5 v1).mono ?_
  rintro _ wq ⟨rfl,hwq⟩
  rw [hwq]
  clear hwq wq
  rw [show (decide ((5:Int) = 5) || decide ((5:Int) = 6)) = true from rfl]
  have HC2:Hid (CsAt v1 (.slice p4 G.c.length k4) f.c):=hdq (by have h:=HB1.out.1; rw [HGC.out] at h ⊢; exact h)
  go_wp2_with fail
  refine (zea _ _ f.c v1 HA1.out.1 HC2.out (by have:=HFC.out.2; omega)).mono ?_
  rintro _ v2 ⟨rfl,hb⟩
  have HO2:=hdq (HO1.out.below hb)
  have HF2:=hdq (HF1.out.below hb)
  have HG2:=hdq (HG1.out.below hb)
  have HA2:=hdq (HA1.out.below hb)
  have HB2:=hdq (HB1.out.below hb)
  have HE2:=hdq (zab HE1.out hb)
  clear hb f0 f1 f2 f3 g0 g1 g2 g3 t0
  have t0:v2.cell? ⟨gO,0,none⟩ = some (.int .i64 5):=by rw [HKq.out]; exact HO2.out.cell 0
  have f0:v2.cell? ⟨gF,0,none⟩ = some (.slice p1 f.c.length k1):=HF2.out.cell 0
  have g0:v2.cell? ⟨w5.heap.size,0,none⟩ = some (.slice p4 G.c.length k4):=HG2.out.cell 0
  have f1:v2.cell? ⟨gF,1,none⟩ = some (.slice p2 f.u.length k2):=HF2.out.cell 1
  have g1:v2.cell? ⟨w5.heap.size,1,none⟩ = some (.slice p5 G.u.length k5):=HG2.out.cell 1
  have f2:v2.cell? ⟨gF,2,none⟩ = some (.slice p3 f.k.length k3):=HF2.out.cell 2
  have g2:v2.cell? ⟨w5.heap.size,2,none⟩ = some (.slice p6 G.k.length k6):=HG2.out.cell 2
  have f3:v2.cell? ⟨gF,3,none⟩ = some (.int .i32 f.e):=HF2.out.cell 3
  have g3:v2.cell? ⟨w5.heap.size,3,none⟩ = some (.int .i32 G.e):=HG2.out.cell 3
  go_wp2_with fail
  exact bodyPost_ret (v:=.bool true) (by simp [results,Tryz.results3,go_sem]) rfl ⟨rfl,HE2.out⟩
 ·have q1:(if (6:Int) = 3 then (-1:Int) else if (6:Int) = 4 then ((r.parts.length:Int) - 1) else 0) = 0:=rfl
  have q2:(if (6:Int) = 6 then (-1:Int) else 0) = -1:=rfl
  rw [q1] at rl
  rw [q2] at rl3
  clear q1 q2 hK8
  have hcl:(G.c.length:Int) = f.c.length + 0:=by have h:=HKE2.out.2.2.2.2.2.1; unfold accN at h; rw [← HKq.out] at h; exact h
  have hul:(G.u.length:Int) = f.u.length + -1:=by have h:=HKE2.out.2.2.2.2.2.2; rw [← HKq.out] at h; exact h
  have HGK:Hid (G.k = f.k∧G.e = f.e):=hdq (HKE2.out.2.2.2.1 (by rw [← HKq.out]; decide))
  have HGC:Hid (G.c = f.c):=hdq (HKE2.out.2.2.2.2.1 (by rw [← HKq.out]; decide))
  have wc1:IntKind.i64.wrap ((f.c.length:Int) + 0) = (G.c.length:Int):=by rw [IntKind.wrap_i64]; have:=HFC.out.2; have:=HKK.out.2.2.2; omega
  have wu1:IntKind.i64.wrap ((f.u.length:Int) + -1) = (G.u.length:Int):=by rw [IntKind.wrap_i64]; have:=HFU.out.2.1; omega
  have wc2:IntKind.i64.wrap (f.c.length:Int) = (G.c.length:Int):=by rw [IntKind.wrap_i64]; have:=HFC.out.2; omega
  clear hcl hul
  clear f0 f1 f2 f3 g0 g1 g2 g3
  have f0:m3.cell? ⟨gF,0,none⟩ = some (.slice p1 f.c.length k1):=HRF3.out.cell 0
  have g0:m3.cell? ⟨w5.heap.size,0,none⟩ = some (.slice p4 G.c.length k4):=HRG3.out.cell 0
  have f1:m3.cell? ⟨gF,1,none⟩ = some (.slice p2 f.u.length k2):=HRF3.out.cell 1
  have g1:m3.cell? ⟨w5.heap.size,1,none⟩ = some (.slice p5 G.u.length k5):=HRG3.out.cell 1
  have f2:m3.cell? ⟨gF,2,none⟩ = some (.slice p3 f.k.length k3):=HRF3.out.cell 2
  have g2:m3.cell? ⟨w5.heap.size,2,none⟩ = some (.slice p6 G.k.length k6):=HRG3.out.cell 2
  have f3:m3.cell? ⟨gF,3,none⟩ = some (.int .i32 f.e):=HRF3.out.cell 3
  have g3:m3.cell? ⟨w5.heap.size,3,none⟩ = some (.int .i32 G.e):=HRG3.out.cell 3
  go_wp2_with fail
  refine (zba 6 m3).mono ?_
  rintro _ wq ⟨rfl,hwq⟩
  rw [hwq]
  clear hwq wq
  rw [show (decide ((6:Int) = 5) || decide ((6:Int) = 6)) = true from rfl]
  have CS:=zdj _ _ f.k G.k f.e G.e m3 HFm.out.2.2 HGm.out.2.2 (by have:=HFK.out.2; omega)
  rw [decide_eq_true HGK.out.2.symm,decide_eq_true HGK.out.1.symm] at CS
  have HCS:=hdq CS
  clear CS
  go_wp2_with fail
  refine (HCS.out).mono ?_
  rintro _ v1 ⟨rfl,hb⟩
  have HO1:=hdq (HRO3.out.below hb)
  have HF1:=hdq (HRF3.out.below hb)
  have HG1:=hdq (HRG3.out.below hb)
  have HA1:=hdq (HFm.out.below hb)
  have HB1:=hdq (HGm.out.below hb)
  have HE1:=hdq (zab HBm.out hb)
  clear hb f0 f1 f2 f3 g0 g1 g2 g3 t0 u0 u4 ru1 ru2 rl ru3 rl3 mm o0 o1 o2 o3 o4 o5 o6 o7
  have t0:v1.cell? ⟨gO,0,none⟩ = some (.int .i64 6):=by rw [HKq.out]; exact HO1.out.cell 0
  have f0:v1.cell? ⟨gF,0,none⟩ = some (.slice p1 f.c.length k1):=HF1.out.cell 0
  have g0:v1.cell? ⟨w5.heap.size,0,none⟩ = some (.slice p4 G.c.length k4):=HG1.out.cell 0
  have f1:v1.cell? ⟨gF,1,none⟩ = some (.slice p2 f.u.length k2):=HF1.out.cell 1
  have g1:v1.cell? ⟨w5.heap.size,1,none⟩ = some (.slice p5 G.u.length k5):=HG1.out.cell 1
  have f2:v1.cell? ⟨gF,2,none⟩ = some (.slice p3 f.k.length k3):=HF1.out.cell 2
  have g2:v1.cell? ⟨w5.heap.size,2,none⟩ = some (.slice p6 G.k.length k6):=HG1.out.cell 2
  have f3:v1.cell? ⟨gF,3,none⟩ = some (.int .i32 f.e):=HF1.out.cell 3
  have g3:v1.cell? ⟨w5.heap.size,3,none⟩ = some (.int .i32 G.e):=HG1.out.cell 3
  go_wp2_with fail
  refine (zba 6 v1).mono ?_
  rintro _ wq ⟨rfl,hwq⟩
  rw [hwq]
  clear hwq wq
  rw [show (decide ((6:Int) = 5) || decide ((6:Int) = 6)) = true from rfl]
  have HC2:Hid (CsAt v1 (.slice p4 G.c.length k4) f.c):=hdq (by have h:=HB1.out.1; rw [HGC.out] at h ⊢; exact h)
  go_wp2_with fail
  refine (zea _ _ f.c v1 HA1.out.1 HC2.out (by have:=HFC.out.2; omega)).mono ?_
  rintro _ v2 ⟨rfl,hb⟩
  have HO2:=hdq (HO1.out.below hb)
  have HF2:=hdq (HF1.out.below hb)
  have HG2:=hdq (HG1.out.below hb)
  have HA2:=hdq (HA1.out.below hb)
  have HB2:=hdq (HB1.out.below hb)
  have HE2:=hdq (zab HE1.out hb)
  clear hb f0 f1 f2 f3 g0 g1 g2 g3 t0
  have t0:v2.cell? ⟨gO,0,none⟩ = some (.int .i64 6):=by rw [HKq.out]; exact HO2.out.cell 0
  have f0:v2.cell? ⟨gF,0,none⟩ = some (.slice p1 f.c.length k1):=HF2.out.cell 0
  have g0:v2.cell? ⟨w5.heap.size,0,none⟩ = some (.slice p4 G.c.length k4):=HG2.out.cell 0
  have f1:v2.cell? ⟨gF,1,none⟩ = some (.slice p2 f.u.length k2):=HF2.out.cell 1
  have g1:v2.cell? ⟨w5.heap.size,1,none⟩ = some (.slice p5 G.u.length k5):=HG2.out.cell 1
  have f2:v2.cell? ⟨gF,2,none⟩ = some (.slice p3 f.k.length k3):=HF2.out.cell 2
  have g2:v2.cell? ⟨w5.heap.size,2,none⟩ = some (.slice p6 G.k.length k6):=HG2.out.cell 2
  have f3:v2.cell? ⟨gF,3,none⟩ = some (.int .i32 f.e):=HF2.out.cell 3
  have g3:v2.cell? ⟨w5.heap.size,3,none⟩ = some (.int .i32 G.e):=HG2.out.cell 3
  go_wp2_with fail
  exact bodyPost_ret (v:=.bool true) (by simp [results,Tryz.results3,go_sem]) rfl ⟨rfl,HE2.out⟩
 ·have q1:(if (7:Int) = 3 then (-1:Int) else if (7:Int) = 4 then ((r.parts.length:Int) - 1) else 0) = 0:=rfl
  have q2:(if (7:Int) = 6 then (-1:Int) else 0) = 0:=rfl
  rw [q1] at rl
  rw [q2] at rl3
  clear q1 q2 hK8
  have hcl:(G.c.length:Int) = f.c.length + 0:=by have h:=HKE2.out.2.2.2.2.2.1; unfold accN at h; rw [← HKq.out] at h; exact h
  have hul:(G.u.length:Int) = f.u.length + 0:=by have h:=HKE2.out.2.2.2.2.2.2; rw [← HKq.out] at h; exact h
  have HGU:Hid (G.u = f.u):=hdq (HKE2.out.2.2.1 (by rw [← HKq.out]; decide) (by rw [← HKq.out]; decide))
  have HGC:Hid (G.c = f.c):=hdq (HKE2.out.2.2.2.2.1 (by rw [← HKq.out]; decide))
  have wc1:IntKind.i64.wrap ((f.c.length:Int) + 0) = (G.c.length:Int):=by rw [IntKind.wrap_i64]; have:=HFC.out.2; have:=HKK.out.2.2.2; omega
  have wu1:IntKind.i64.wrap ((f.u.length:Int) + 0) = (G.u.length:Int):=by rw [IntKind.wrap_i64]; have:=HFU.out.2.1; omega
  have wc2:IntKind.i64.wrap (f.c.length:Int) = (G.c.length:Int):=by rw [IntKind.wrap_i64]; have:=HFC.out.2; omega
  have wu2:IntKind.i64.wrap (f.u.length:Int) = (G.u.length:Int):=by rw [IntKind.wrap_i64]; have:=HFU.out.2.1; omega
  clear hcl hul
  clear f0 f1 f2 f3 g0 g1 g2 g3
  have f0:m3.cell? ⟨gF,0,none⟩ = some (.slice p1 f.c.length k1):=HRF3.out.cell 0
  have g0:m3.cell? ⟨w5.heap.size,0,none⟩ = some (.slice p4 G.c.length k4):=HRG3.out.cell 0
  have f1:m3.cell? ⟨gF,1,none⟩ = some (.slice p2 f.u.length k2):=HRF3.out.cell 1
  have g1:m3.cell? ⟨w5.heap.size,1,none⟩ = some (.slice p5 G.u.length k5):=HRG3.out.cell 1
  have f2:m3.cell? ⟨gF,2,none⟩ = some (.slice p3 f.k.length k3):=HRF3.out.cell 2
  have g2:m3.cell? ⟨w5.heap.size,2,none⟩ = some (.slice p6 G.k.length k6):=HRG3.out.cell 2
  have f3:m3.cell? ⟨gF,3,none⟩ = some (.int .i32 f.e):=HRF3.out.cell 3
  have g3:m3.cell? ⟨w5.heap.size,3,none⟩ = some (.int .i32 G.e):=HRG3.out.cell 3
  go_wp2_with fail
  refine (zba 7 m3).mono ?_
  rintro _ wq ⟨rfl,hwq⟩
  rw [hwq]
  clear hwq wq
  rw [show (decide ((7:Int) = 5) || decide ((7:Int) = 6)) = false from rfl]
  have HN2:Hid (NsAt .u16 m3 (.slice p5 G.u.length k5) f.u):=hdq (by have h:=HGm.out.2.1; rw [HGU.out] at h ⊢; exact h)
  go_wp2_with fail
  refine (zdf _ _ f.u m3 HFm.out.2.1 HN2.out (by have:=HFU.out.2.1; omega)).mono ?_
  rintro _ v1 ⟨rfl,hb⟩
  have HO1:=hdq (HRO3.out.below hb)
  have HF1:=hdq (HRF3.out.below hb)
  have HG1:=hdq (HRG3.out.below hb)
  have HA1:=hdq (HFm.out.below hb)
  have HB1:=hdq (HGm.out.below hb)
  have HE1:=hdq (zab HBm.out hb)
  clear hb f0 f1 f2 f3 g0 g1 g2 g3 t0 u0 u4 ru1 ru2 rl ru3 rl3 mm o0 o1 o2 o3 o4 o5 o6 o7
  have t0:v1.cell? ⟨gO,0,none⟩ = some (.int .i64 7):=by rw [HKq.out]; exact HO1.out.cell 0
  have f0:v1.cell? ⟨gF,0,none⟩ = some (.slice p1 f.c.length k1):=HF1.out.cell 0
  have g0:v1.cell? ⟨w5.heap.size,0,none⟩ = some (.slice p4 G.c.length k4):=HG1.out.cell 0
  have f1:v1.cell? ⟨gF,1,none⟩ = some (.slice p2 f.u.length k2):=HF1.out.cell 1
  have g1:v1.cell? ⟨w5.heap.size,1,none⟩ = some (.slice p5 G.u.length k5):=HG1.out.cell 1
  have f2:v1.cell? ⟨gF,2,none⟩ = some (.slice p3 f.k.length k3):=HF1.out.cell 2
  have g2:v1.cell? ⟨w5.heap.size,2,none⟩ = some (.slice p6 G.k.length k6):=HG1.out.cell 2
  have f3:v1.cell? ⟨gF,3,none⟩ = some (.int .i32 f.e):=HF1.out.cell 3
  have g3:v1.cell? ⟨w5.heap.size,3,none⟩ = some (.int .i32 G.e):=HG1.out.cell 3
  go_wp2_with fail
  refine (zba 7 v1).mono ?_
  rintro _ wq ⟨rfl,hwq⟩
  rw [hwq]
  clear hwq wq
  rw [show (decide ((7:Int) = 5) || decide ((7:Int) = 6)) = false from rfl]
  have HC2:Hid (CsAt v1 (.slice p4 G.c.length k4) f.c):=hdq (by have h:=HB1.out.1; rw [HGC.out] at h ⊢; exact h)
  go_wp2_with fail
  refine (zea _ _ f.c v1 HA1.out.1 HC2.out (by have:=HFC.out.2; omega)).mono ?_
  rintro _ v2 ⟨rfl,hb⟩
  have HO2:=hdq (HO1.out.below hb)
  have HF2:=hdq (HF1.out.below hb)
  have HG2:=hdq (HG1.out.below hb)
  have HA2:=hdq (HA1.out.below hb)
  have HB2:=hdq (HB1.out.below hb)
  have HE2:=hdq (zab HE1.out hb)
  clear hb f0 f1 f2 f3 g0 g1 g2 g3 t0
  have t0:v2.cell? ⟨gO,0,none⟩ = some (.int .i64 7):=by rw [HKq.out]; exact HO2.out.cell 0
  have f0:v2.cell? ⟨gF,0,none⟩ = some (.slice p1 f.c.length k1):=HF2.out.cell 0
  have g0:v2.cell? ⟨w5.heap.size,0,none⟩ = some (.slice p4 G.c.length k4):=HG2.out.cell 0
  have f1:v2.cell? ⟨gF,1,none⟩ = some (.slice p2 f.u.length k2):=HF2.out.cell 1
  have g1:v2.cell? ⟨w5.heap.size,1,none⟩ = some (.slice p5 G.u.length k5):=HG2.out.cell 1
  have f2:v2.cell? ⟨gF,2,none⟩ = some (.slice p3 f.k.length k3):=HF2.out.cell 2
  have g2:v2.cell? ⟨w5.heap.size,2,none⟩ = some (.slice p6 G.k.length k6):=HG2.out.cell 2
  have f3:v2.cell? ⟨gF,3,none⟩ = some (.int .i32 f.e):=HF2.out.cell 3
  have g3:v2.cell? ⟨w5.heap.size,3,none⟩ = some (.int .i32 G.e):=HG2.out.cell 3
  go_wp2_with fail
  exact bodyPost_ret (v:=.bool true) (by simp [results,Tryz.results3,go_sem]) rfl ⟨rfl,HE2.out⟩
end Go.Proofs.YtlpdfglbdijkoaaGreatDoor