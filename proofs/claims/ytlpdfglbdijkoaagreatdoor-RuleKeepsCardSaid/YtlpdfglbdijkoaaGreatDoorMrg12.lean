/-
  Own texts, several in one (Way, Awake6, With, Awake8).
-/
import Derived.Test.YtlpdfglbdijkoaaGreatDoorMrg11
import Derived.Maps.AppendAt
import Derived.Test.YtlpdfglbdijkoaaGreatDoorMrg10
import Derived.Shelf.SlicesE.Clone
namespace Go.Proofs.YtlpdfglbdijkoaaGreatDoor
open Go.RowKit
set_option linter.unusedVariables false
set_option linter.unusedSimpArgs false
def uv (l:List Nat):List Value:=l.map fun (n:Nat)=>.int .u32 (n:Int)
def wayO (l:List Ac):Nat→Option Ac→List Nat
 | 0,_=>[]
 | _ + 1,none=>[]
 | f + 1,some a=>a.code :: wayO l f (getC l a.par)
theorem zai {w w':World} {B n size:Nat} {e:TypeId} {v:Value} {xs:List Value} (h:w.ownsRow B e size v n xs) (hb:Below w.heap.size w w'):w'.ownsRow B e size v n xs:=by
 refine ⟨h.1,?_⟩
 rcases h.2 with h2 | ⟨g,cap,cur,e1,e2,e3,e4⟩
 ·exact .inl h2
 ·have hlt:g < w.heap.size:=by
   by_cases c:g < w.heap.size
   ·exact c
   ·rw [Array.getElem?_eq_none (by omega)] at e3; cases e3
  exact .inr ⟨g,cap,cur,e1,e2,(hb.block g hlt).trans e3,e4⟩
theorem zbc {w:World} {B n size g:Nat} {e:TypeId} {v:Value} {xs:List Value} (h:w.ownsRow B e size v n xs) (hg:v.ownBlock = some g):B≤g∧g < w.heap.size:=by
 rcases h.2 with ⟨rfl,_⟩ | ⟨g',cap,cur,rfl,e2,e3,_⟩
 ·simp [Value.ownBlock] at hg
 ·simp [Value.ownBlock] at hg
  subst hg
  refine ⟨e2,?_⟩
  by_cases c:g' < w.heap.size
  ·exact c
  ·rw [Array.getElem?_eq_none (by omega)] at e3; cases e3
theorem zak {w w':World} {B n size g:Nat} {e:TypeId} {v:Value} {xs:List Value} (h:w.ownsRow B e size v n xs) (hs:Stored w g w') (hg:v.ownBlock ≠ some g):w'.ownsRow B e size v n xs:=by
 refine ⟨h.1,?_⟩
 rcases h.2 with h2 | ⟨g',cap,cur,rfl,e2,e3,e4⟩
 ·exact .inl h2
 ·refine .inr ⟨g',cap,cur,rfl,e2,(hs.other g' ?_).trans e3,e4⟩
  intro e
  subst e
  exact hg rfl
theorem zmi:∃ i,Tryz.prog.info? 44 = some i∧i.zero = some (.int .u32 0)∧i.size = 1∧i.bytes = 4:=by
 have h:(Tryz.prog.info? 44).map (fun i=>(i.zero,i.size,i.bytes)) = some (some (.int .u32 0),1,4):=by kernel_rfl
 obtain ⟨i,hi,h⟩:=Option.map_eq_some_iff.1 h
 simp only [Prod.mk.injEq] at h
 exact ⟨i,hi,h.1,h.2.1,h.2.2⟩
def slLen:Value→Nat
 | .slice _ n _=>n
 | _=>0
theorem zaj {w:World} {B n size:Nat} {e:TypeId} {v:Value} {xs:List Value} (h:w.ownsRow B e size v n xs):∃ p c,v = .slice p n c:=by
 rcases h.2 with ⟨rfl,rfl⟩ | ⟨g,cap,cur,rfl,_⟩
 ·exact ⟨none,0,rfl⟩
 ·exact ⟨_,cap,rfl⟩
theorem zhx (l:List Ac) (f:Nat):wayO l f none = []:=by cases f <;> rfl
theorem zuw (l m:List Nat):uv (l ++ m) = uv l ++ uv m:=by simp [uv]
set_option maxHeartbeats 2000000 in
set_option maxRecDepth 100000 in
theorem zpc (a:Option Addr) (cap:Nat) (l:List Ac) (n:Nat) (w:World) (hE:ElsAt ac 4 ac0 w a l) (hl:l.length≤1000000) (hr:AcRise l) :
  Calls Tryz.prog 74 #[.slice a l.length cap,.int .u32 (n:Int)] w fun e w'=>∃ v,e = .returned v∧w'.ownsRow w.heap.size 44 1 v (wayO l 13 (getC l n)).length (uv (wayO l 13 (getC l n)))∧Below w.heap.size w w':=by
 have GET:=hdq fun (m:Nat) W (hb:Below w.heap.size w W)=>zde a cap l m W (hE.below hb) hl hr
 have G0:=hdq (zde a cap l n w hE hl hr)
 clear hE hl hr
 go_enter Tryz.func74,Tryz.ntmps74
 go_wp2_with fail
 refine G0.out.mono ?_
 rintro _ w1 ⟨rfl,hb⟩
 have HB1:=hdq hb
 clear hb G0
 obtain ⟨cur,hcur⟩:∃ c,c = getC l n:=⟨_,rfl⟩
 rw [← hcur]
 have HC:=hdq hcur
 clear hcur
 unfold ac
 go_wp2_with fail
 have R0:=Row.new w1 (ac (cur.getD ac0)).toArray 61
 have HB2:=hdq (zaa HB1.out (.cells (ac (cur.getD ac0)).toArray 61))
 obtain ⟨g0,hg0⟩:∃ g,g = w1.heap.size:=⟨_,rfl⟩
 have hgw:w.heap.size≤g0:=by rw [hg0]; exact HB1.out.size
 rw [← hg0] at R0 ⊢
 change Row (w1.alloc (.cells #[.int .u32 ((cur.getD ac0).code:Int),.string (cur.getD ac0).name,.int .u8 ((cur.getD ac0).kind:Int),.int .u32 ((cur.getD ac0).par:Int)] 61)) g0 (ac (cur.getD ac0)).toArray _ at R0
 change Hid (Below w.heap.size w (w1.alloc (.cells #[.int .u32 ((cur.getD ac0).code:Int),.string (cur.getD ac0).name,.int .u8 ((cur.getD ac0).kind:Int),.int .u32 ((cur.getD ac0).par:Int)] 61))) at HB2
 generalize w1.alloc (.cells #[.int .u32 ((cur.getD ac0).code:Int),.string (cur.getD ac0).name,.int .u8 ((cur.getD ac0).kind:Int),.int .u32 ((cur.getD ac0).par:Int)] 61) = w2 at *
 have HR0:=hdq R0
 have HGW:=hdq hgw
 clear hg0 R0 hgw HB1
 go_loopw [5,6,7] (fun sv pv okv wr=>∃ (out:List Nat) (g:Nat) (cu:Option Ac),pv = .pointer (some ⟨g,0,none⟩)∧okv = .bool cu.isSome∧Row wr g (ac (cu.getD ac0)).toArray 61∧w.heap.size≤g ∧
   wr.ownsRow w.heap.size 44 1 sv out.length (uv out)∧sv.ownBlock ≠ some g∧out ++ wayO l (13 - out.length) cu = wayO l 13 cur∧out.length≤13∧Below w.heap.size w wr) (fun sv _ _ _=>13 - slLen sv)
 case atStart=>exact ⟨[],g0,cur,rfl,rfl,HR0.out,HGW.out,⟨rfl,.inl ⟨rfl,rfl⟩⟩,by simp [Value.ownBlock],rfl,by simp,HB2.out⟩
 case round =>
  obtain ⟨out,g,cu,rfl,rfl,hR,hg,hown,hne,hfull,hlen,BB⟩:=hrel
  have HR:=hdq hR
  have HG:=hdq hg
  have HOWN:=hdq hown
  have HNE:=hdq hne
  have HF:=hdq hfull
  have HLN:=hdq hlen
  have HBB:=hdq BB
  obtain ⟨sp,sc,rfl⟩:=zaj hown
  clear hR hg hown hne hfull hlen BB HR0 HGW HB2
  rcases cu with _ | x
  ·have hf:out = wayO l 13 cur:=by have:=HF.out; rwa [zhx,List.append_nil] at this
   go_wp2_with fail
   go_ret
   rw [← HC.out,← hf]
   exact ⟨_,rfl,HOWN.out,HBB.out⟩
  ·by_cases h12:out.length≤12
   ·have h12i:(out.length:Int)≤12:=by omega
    obtain ⟨inf,hi,h1,h2,h3⟩:=zmi
    have RR:Row wr g (ac x).toArray 61:=HR.out
    have c0:wr.cell? ⟨g,0,none⟩ = some (.int .u32 (x.code:Int)):=RR.cell 0
    have HI:=hdq hi
    have H12:=hdq h12
    clear h12 hi
    show Code.wp _ _ _ _ _
    simp only [Option.isSome_some]
    go_wp2_with (first
     | (at_builtin; refine wpList_append_own_at _ rfl _ _ 145 rfl w.heap.size 44 inf (.int .u32 0) 1 4 Tryz.underlying145 HI.out h1 h2 h3 rfl (by decide) (.slice sp out.length sc) out.length (uv out) rfl (zan HOWN.out _) ⟨wr.heap.size,0,none⟩ 1 1 [.int .u32 (x.code:Int)] rfl rfl (cell_one_new wr _ _) (by simp [Value.oneCell']) (by unfold maxLen; have:=H12.out; omega) (by have:=H12.out; omega) (by have:=HBB.out.size; simp; omega) ?_; intro v2 w6 hown6 hg6 hnil6 hat6; have RR6:Row w6 g (ac x).toArray 61:=(hg6.block g (by have:=RR.lt; simp; omega) (fun e=>HNE.out e.symm)).trans (RR.alloc _); have f0:w6.cell? ⟨g,0,none⟩ = some (.int .u32 (x.code:Int)):=RR6.cell 0; have f1:w6.cell? ⟨g,1,none⟩ = some (.string x.name):=RR6.cell 1; have f2:w6.cell? ⟨g,2,none⟩ = some (.int .u8 (x.kind:Int)):=RR6.cell 2; have f3:w6.cell? ⟨g,3,none⟩ = some (.int .u32 (x.par:Int)):=RR6.cell 3))
    have HB6:=hdq ((zaa HBB.out (.cells #[.int .u32 (x.code:Int)] 44)).grown hg6 (by have:=HBB.out.size; simp; omega) (fun k hk=>(zbc HOWN.out hk).1))
    have R7:=Row.new w6 (ac x).toArray 61
    have B7:=zaa (Below.refl _ w6) (.cells (ac x).toArray 61)
    have hv2:v2.ownBlock ≠ some w6.heap.size:=fun e=>by have:=(zbc hown6 e).2; omega
    obtain ⟨g7,hg7⟩:∃ g,g = w6.heap.size:=⟨_,rfl⟩
    rw [← hg7] at R7 hv2
    rw [← hg7]
    change Row (w6.alloc (.cells #[.int .u32 (x.code:Int),.string x.name,.int .u8 (x.kind:Int),.int .u32 (x.par:Int)] 61)) g7 (ac x).toArray _ at R7
    change Below w6.heap.size w6 (w6.alloc (.cells #[.int .u32 (x.code:Int),.string x.name,.int .u8 (x.kind:Int),.int .u32 (x.par:Int)] 61)) at B7
    have HB7:=hdq (zab HB6.out B7)
    have HOWN7:=hdq (zai hown6 B7)
    have hg7w:w.heap.size≤g7:=by rw [hg7]; exact HB6.out.size
    generalize w6.alloc (.cells #[.int .u32 (x.code:Int),.string x.name,.int .u8 (x.kind:Int),.int .u32 (x.par:Int)] 61) = w7 at *
    have e3:w7.cell? ⟨g7,3,none⟩ = some (.int .u32 (x.par:Int)):=R7.cell 3
    clear f0 f1 f2 f3 RR6 B7 hg7 hg6 hown6 hnil6 hat6 c0 RR h1 h2 h3 h12i
    go_wp2_with fail
    refine (GET.out x.par w7 HB7.out).mono ?_
    rintro _ w8 ⟨rfl,hb8⟩
    have HB8:=hdq (zab HB7.out hb8)
    have R8:=R7.below hb8
    have HOWN8:=hdq (zai HOWN7.out hb8)
    obtain ⟨nx,hnx⟩:∃ c,c = getC l x.par:=⟨_,rfl⟩
    rw [← hnx]
    have HNX:=hdq hnx
    have HV2:=hdq hv2
    have HG7:=hdq hg7w
    clear hb8 R7 e3 hnx hv2 hg7w HB7 HOWN7
    go_wp2_with (first | (refine zad rfl 61 _ _ rfl g7 (ac (nx.getD ac0)).toArray rfl rfl R8 (zcm _) rfl (zjx _) rfl ?_; intro w9 RZ S9))
    have hl13:=H12.out
    have hs2:∃ p c,v2 = .slice p (out.length + 1) c:=zaj HOWN8.out
    refine ⟨⟨out ++ [x.code],g7,nx,rfl,rfl,RZ,HG7.out,?_,HV2.out,?_,by simp; omega,S9.below HB8.out HG7.out⟩,?_⟩
    ·have h:=zak HOWN8.out S9 HV2.out
     rw [zuw,List.length_append]
     exact h
    ·have h:=HF.out
     obtain ⟨f,hf⟩:∃ f,13 - out.length = f + 1:=⟨12 - out.length,by omega⟩
     rw [hf] at h
     rw [← h,List.append_assoc,List.length_append,show 13 - (out.length + [x.code].length) = f by simp; omega,HNX.out]
     rfl
    ·obtain ⟨p2,c2,rfl⟩:=hs2
     simp [slLen]
     omega
   ·have h13:out.length = 13:=by have:=HLN.out; omega
    have h12i:¬ (out.length:Int)≤12:=by omega
    have hf:out = wayO l 13 cur:=by
     have h:=HF.out
     rw [h13,show 13 - 13 = 0 from rfl] at h
     have e:wayO l 0 (some x) = []:=rfl
     rwa [e,List.append_nil] at h
    have HF3:=hdq hf
    clear h12 hf h13
    simp only [Option.isSome_some]
    go_wp2_with fail
    go_ret
    rw [← HC.out,← HF3.out]
    exact ⟨_,rfl,HOWN.out,HBB.out⟩
theorem zun (w:World):Calls Tryz.prog 244 #[.int .u8 3] w fun e w'=>e = .returned (.bool true)∧w' = w:=by
 go_enter Tryz.func244,Tryz.ntmps244
 go_wp2
 go_ret
 exact ⟨rfl,rfl⟩
theorem flow_0 (w:World):Calls Tryz.prog 245 #[.int .u8 0] w fun e w'=>e = .returned (.bool false)∧w' = w:=by
 go_enter Tryz.func245,Tryz.ntmps245
 go_wp2
 go_ret
 exact ⟨rfl,rfl⟩
def l6:List Ac:=[⟨1,⟨#[97]⟩,0,0⟩,⟨2,⟨#[98]⟩,0,1⟩]
theorem way6:wayO l6 13 (getC l6 2) = [2,1]:=by
 rfl
theorem rise6:AcRise l6:=by
 intro i j hij hj
 have:j < 2:=hj
 obtain rfl:i = 0:=by omega
 obtain rfl:j = 1:=by omega
 show 1 < 2
 omega
set_option maxHeartbeats 1000000 in
theorem awake6 (w:World) (hG:Glb5 w):Calls Tryz.prog 239 #[] w fun e w'=>e = .returned (.bool true)∧Below w.heap.size w w':=by
 have HG:=hdq hG
 clear hG
 go_enter Tryz.func239,Tryz.ntmps239
 go_wp2_with fail
 have R:=Row.new w #[.int .u32 1,.string ⟨#[97]⟩,.int .u8 0,.int .u32 0,.int .u32 2,.string ⟨#[98]⟩,.int .u8 0,.int .u32 1] 61
 have HB:=hdq (zaa (Below.refl _ w) (.cells #[.int .u32 1,.string ⟨#[97]⟩,.int .u8 0,.int .u32 0,.int .u32 2,.string ⟨#[98]⟩,.int .u8 0,.int .u32 1] 61))
 obtain ⟨g,hg⟩:∃ g,g = w.heap.size:=⟨_,rfl⟩
 rw [← hg] at R ⊢
 clear hg
 generalize w.alloc (.cells #[.int .u32 1,.string ⟨#[97]⟩,.int .u8 0,.int .u32 0,.int .u32 2,.string ⟨#[98]⟩,.int .u8 0,.int .u32 1] 61) = w1 at *
 have hE:ElsAt ac 4 ac0 w1 (some ⟨g,0,none⟩) l6:=.inr ⟨g,0,rfl,fun i hi=>by
  have hi:i < 2:=hi
  intro j v hv
  have hj:j < 4:=by
   by_cases c:j < 4
   ·exact c
   ·rw [List.getElem?_eq_none (by show 4≤j; omega)] at hv; cases hv
  rw [R.cell]
  rcases i with _ | _ | i
  ·rcases j with _ | _ | _ | _ | j
   ·exact hv
   ·exact hv
   ·exact hv
   ·exact hv
   ·omega
  ·rcases j with _ | _ | _ | _ | j
   ·exact hv
   ·exact hv
   ·exact hv
   ·exact hv
   ·omega
  ·omega⟩
 refine (zpc (some ⟨g,0,none⟩) 2 l6 2 w1 hE (by show 2≤1000000; omega) rise6).mono ?_
 rintro _ w2 ⟨v,rfl,ho,hb⟩
 rw [way6] at ho
 have hN:NsAt .u32 w2 v [2,1]:=(NsAt.of_own (l:=[2,1]) ho).1
 have HB2:=hdq (zab HB.out hb)
 clear hb ho hE R
 go_wp2_with fail
 have R7:=Row.new w2 #[.int .u32 2,.int .u32 1] 44
 have B7:=zaa (Below.refl _ w2) (.cells #[.int .u32 2,.int .u32 1] 44)
 have hN2:NsAt .u32 (w2.alloc (.cells #[.int .u32 2,.int .u32 1] 44)) (.slice (some ⟨w2.heap.size,0,none⟩) 2 2) [2,1]:=NsAt.of_row (l:=[2,1]) R7
 have HE:=hdq (zrv _ _ [2,1] _ (hN.below B7) hN2 (by show 2≤1000000; omega))
 have HB3:=hdq (zab HB2.out B7)
 clear R7 B7 hN hN2
 refine HE.out.mono ?_
 rintro _ w3 ⟨rfl,hb3⟩
 have HB4:=hdq (zab HB3.out hb3)
 clear hb3 HE HB3
 go_wp2_with fail
 refine (zun w3).mono ?_
 rintro _ _ ⟨rfl,rfl⟩
 go_wp2_with fail
 refine (flow_0 _).mono ?_
 rintro _ _ ⟨rfl,rfl⟩
 go_wp2_with fail
 refine (awake5 _ (HG.out.below HB4.out)).mono ?_
 rintro _ w5 ⟨rfl,hb5⟩
 go_wp2
 go_ret
 exact ⟨rfl,zab HB4.out hb5⟩
def renU:Go.Shelf.Ren:=⟨fun | 41=>89 | n=>n,fun | 22=>35 | 23=>56 | 4=>4 | n=>n,fun | n=>n⟩
theorem laysU:SlLaysE0.n41 Tryz.prog renU:={
 mixed:=by kernel_rfl
 f41:=⟨Tryz.f89.name,by decide,Tryz.func89.trans (congrArg some (by kernel_rfl))⟩
 t4:=Tryz.underlying4
 a4:=Tryz.isAgg4
 z4:=Tryz.sizeOf4
 v4:=Tryz.zeroValue4
 t22:=Tryz.underlying35
 a22:=Tryz.isAgg35
 z22:=Tryz.sizeOf35
 v22:=Tryz.zeroValue35 }
theorem zfg:∃ i,Tryz.prog.info? 56 = some i∧i.zero = some (.int .u16 0)∧i.size = 1∧i.bytes = 2:=by
 have h:(Tryz.prog.info? 56).map (fun i=>(i.zero,i.size,i.bytes)) = some (some (.int .u16 0),1,2):=by kernel_rfl
 obtain ⟨i,hi,h⟩:=Option.map_eq_some_iff.1 h
 simp only [Prod.mk.injEq] at h
 exact ⟨i,hi,h.1,h.2.1,h.2.2⟩
theorem NsAt.cells {k:IntKind} {w:World} {b off n c:Nat} {xs:List Int} (hl:xs.length = n) (h:∀ i,i < xs.length→w.cell? ⟨b,off + i,none⟩ = some (.int k (xs.getD i 0))):∀ j u,(nv k xs)[j]? = some u→w.cell? ⟨b,off + j,none⟩ = some u:=by
 intro j u hj
 unfold nv at hj
 rw [List.getElem?_map] at hj
 obtain ⟨z,hz,rfl⟩:=Option.map_eq_some_iff.1 hj
 have hlt:j < xs.length:=(List.getElem?_eq_some_iff.1 hz).1
 have:=h j hlt
 rwa [List.getD_eq_getElem?_getD,hz] at this
theorem zjn (b off n c:Nat) (xs:List Int) (w:World) (h:∀ i,i < xs.length→w.cell? ⟨b,off + i,none⟩ = some (.int .u16 (xs.getD i 0))) (hl:xs.length = n) (hn:n≤100000) :
  Calls Tryz.prog 89 #[.slice (some ⟨b,off,none⟩) n c] w fun e w'=>∃ v,e = .returned v∧w'.ownsRow w.heap.size 56 1 v n (nv .u16 xs)∧Below w.heap.size w w':=by
 obtain ⟨i,hi,h1,h2,h3⟩:=zfg
 have z:∀ w,(Go.sizeOf 56).run Tryz.prog w = .ok 1 w:=fun w=>by kernel_rfl
 refine (AnyE.slices_Clone laysU i (.int .u16 0) 1 2 hi h1 h2 h3 rfl (by omega) z b off n c (nv .u16 xs) w (by rw [zbs,hl,Nat.mul_one]) (by unfold maxLen; omega) (by omega) (NsAt.cells (n:=n) (c:=c) hl h) (ziw _ _)).mono ?_
 rintro e w' ⟨v,rfl,ho,_,hb⟩
 exact ⟨v,rfl,ho,hb⟩
theorem ownMono {w:World} {B B':Nat} {e:TypeId} {size n:Nat} {v:Value} {xs:List Value} (h:w.ownsRow B e size v n xs) (hb:B'≤B):w.ownsRow B' e size v n xs:=by
 obtain ⟨h1,h2⟩:=h
 refine ⟨h1,?_⟩
 rcases h2 with h2 | ⟨g,cap,cur,e1,e2,e3⟩
 ·exact .inl h2
 ·exact .inr ⟨g,cap,cur,e1,Nat.le_trans hb e2,e3⟩
theorem zny (B n p vb:Nat) (v:Value) (xs:List Int) (x:Int) (w:World) (hown:w.ownsRow B 56 1 v n (nv .u16 xs)) (RV:Row w vb #[.int .u16 x] 56) (hne:v.ownBlock ≠ some vb) (hB:B≤w.heap.size) (hp:p < n) (hn:n≤100000) :
  Calls Tryz.prog 92 #[v,.int .i64 (p:Int),.slice (some ⟨vb,0,none⟩) 1 1] w fun e w'=>∃ v',e = .returned v'∧w'.ownsRow B 56 1 v' (n + 1) (nv .u16 (xs.take p ++ x :: xs.drop p))∧Below B w w':=by
 obtain ⟨h1,h2⟩:=hown
 have hl:xs.length = n:=by rw [zbs,Nat.mul_one] at h1; exact h1
 rcases h2 with ⟨rfl,rfl⟩ | ⟨g,cap,cur,rfl,hg,hh,hc,hm,hs,ht⟩
 ·omega
 ·rw [Nat.mul_one] at hs ht
  have hvg:vb ≠ g:=fun e=>hne (by rw [e]; rfl)
  by_cases hr:n + 1≤cap
  ·exact zkp B g cap n p vb cur xs x w hh RV hvg hg hl hp hr ⟨hm,hn⟩ hs ht
  ·obtain rfl:cap = n:=by omega
   exact zkq B g cap p vb cur xs x w hh RV hvg hB hl hp hn hs (by rw [← ht,List.take_of_length_le (by rw [Array.length_toList]; omega)])
theorem zgu {P:Program} {t t2 e e2:TypeId} (ht:P.underlying t = some (.slice e)) (ht2:P.underlying t2 = some (.slice e2)) (ty:TypeId) (s x:Value) (w:World):(Builtin.append_ #[t,t2] ty #[s,x]).run P w = (Builtin.append_ #[t,t] ty #[s,x]).run P w:=by
 simp only [Builtin.append_]
 cases s <;> simp [run_underlying ht,run_underlying ht2]
set_option maxHeartbeats 4000000 in
set_option maxRecDepth 100000 in
theorem znz (B n vb:Nat) (v:Value) (xs:List Int) (x:Int) (w:World) (hown:w.ownsRow B 56 1 v n (nv .u16 xs)) (RV:Row w vb #[.int .u16 x] 56) (hB:B≤w.heap.size) (hn:n≤100000) :
  Calls Tryz.prog 92 #[v,.int .i64 (n:Int),.slice (some ⟨vb,0,none⟩) 1 1] w fun e w'=>∃ v',e = .returned v'∧w'.ownsRow B 56 1 v' (n + 1) (nv .u16 (xs ++ [x]))∧Below B w w':=by
 obtain ⟨i,hi,h1,h2,h3⟩:=zfg
 obtain ⟨p,c,rfl⟩:=zaj hown
 have hnc:n≤c:=by
  rcases hown.2 with ⟨e,hz⟩ | ⟨g,cap,cur,e,_,_,h,_⟩
  ·omega
  ·injection e with _ _ e3
   rw [e3]; exact h
 have hadd:=zbo vb 0
 obtain ⟨v',w',hr,k2,k3,k4,k5⟩:=run_append_own_at (P:=Tryz.prog) w B 35 35 56 i (.int .u16 0) 1 2 Tryz.underlying35 hi h1 h2 h3 rfl (by omega) (.slice p n c) n (nv .u16 xs) hown ⟨vb,0,none⟩ 1 1 [.int .u16 x] rfl (fun j u hj=>by rw [hadd,Nat.zero_add,RV.cell j]; simpa using hj) (by simp [Value.oneCell']) (by unfold maxLen; omega) (by omega) hB
 have HK:=hdq k2
 have HR:=hdq hr
 have HB:=hdq ((Below.refl B w).grown k3 hB (fun k hk=>(zbc hown hk).1))
 have HN:=hdq hn
 have e1:(0:Int)≤(n:Int):=by omega
 have e2:(n:Int)≤(c:Int):=by omega
 clear hr k2 k3 k4 k5 hn hown RV hi h1 h2 h3 hadd hB
 have hr2:∀ ty,(Builtin.append_ #[35,23] ty #[.slice p n c,.slice (some ⟨vb,0,none⟩) 1 1]).run Tryz.prog w = .ok v' w':=fun ty=>by
  rw [zgu Tryz.underlying35 Tryz.underlying23]
  exact HR.out
 have HR2:=hdq hr2
 clear hr2 HR
 have n1:n≤c:=hnc
 cases p with
 | none =>
  go_enter Tryz.func92,Tryz.ntmps92
  go_wp2_with (first | (at_builtin; refine zbn rfl (zao _ _ _ _ rfl rfl rfl (HR2.out _)) ?_))
  go_ret
  exact ⟨_,rfl,by rw [show nv .u16 (xs ++ [x]) = nv .u16 xs ++ [.int .u16 x] by simp [nv]]; exact HK.out,HB.out⟩
 | some a =>
  go_enter Tryz.func92,Tryz.ntmps92
  go_wp2_with (first | (at_builtin; refine zbn rfl (zao _ _ _ _ rfl rfl rfl (HR2.out _)) ?_))
  all_goals go_ret
  all_goals exact ⟨_,rfl,by rw [show nv .u16 (xs ++ [x]) = nv .u16 xs ++ [.int .u16 x] by simp [nv]]; exact HK.out,HB.out⟩
theorem znt {w:World} {B n size g:Nat} {e:TypeId} {v:Value} {xs:List Value} (h:w.ownsRow B e size v n xs) (hg:w.heap.size≤g):v.ownBlock ≠ some g:=fun e=>by
 have:=(zbc h e).2
 omega
set_option maxHeartbeats 1000000 in
theorem zli (b off c p:Nat) (xs:List Int) (x:Int) (w:World) (hx:∀ i,i < xs.length→w.cell? ⟨b,off + i,none⟩ = some (.int .u16 (xs.getD i 0))) (hn:xs.length≤100000) (hp:PosN xs x p) (hno:¬ (p < xs.length∧xs.getD p 0 = x)) :
  Calls Tryz.prog 54 #[.slice (some ⟨b,off,none⟩) xs.length c,.int .u16 x] w fun e w'=>∃ v',e = .returned v'∧w'.ownsRow w.heap.size 56 1 v' (xs.length + 1) (nv .u16 (xs.take p ++ x :: xs.drop p))∧Below w.heap.size w w':=by
 have HS:=hdq (zgj (.slice (some ⟨b,off,none⟩) xs.length c) xs x p w ⟨_,c,rfl,.inr ⟨b,off,rfl,hx⟩⟩ (by omega) hp)
 have e0:(decide (p < xs.length) && decide (xs.getD p 0 = x)) = false:=by rw [← Bool.decide_and]; exact decide_eq_false hno
 rw [e0] at HS
 have HX:=hdq hx
 have HN:=hdq hn
 have HP:=hdq hp.1
 clear hx hn hp hno e0
 go_enter Tryz.func54,Tryz.ntmps54
 go_wp2_with fail
 refine HS.out.mono ?_
 rintro _ w1 ⟨rfl,hb⟩
 have HB1:=hdq hb
 clear hb HS
 go_wp2_with fail
 refine (zjn b off xs.length c xs w1 (fun i hi=>zae (HX.out i hi) HB1.out) rfl HN.out).mono ?_
 rintro _ w2 ⟨v,rfl,ho,hb⟩
 have HB2:=hdq (zab HB1.out hb)
 have HO:=hdq (ownMono ho HB1.out.size)
 clear hb ho
 go_wp2_with fail
 have RV:=Row.new w2 #[.int .u16 x] 56
 have B3:=zaa (Below.refl _ w2) (.cells #[.int .u16 x] 56)
 have ho3:=zai HO.out B3
 have hne:=znt HO.out (Nat.le_refl w2.heap.size)
 have HB3:=hdq (zab HB2.out B3)
 obtain ⟨vb,hvb⟩:∃ g,g = w2.heap.size:=⟨_,rfl⟩
 rw [← hvb] at RV hne
 rw [← hvb]
 clear hvb B3
 generalize w2.alloc (.cells #[.int .u16 x] 56) = w3 at *
 by_cases hpn:p < xs.length
 ·have HI:=hdq (zny w.heap.size xs.length p vb v xs x w3 ho3 RV hne HB3.out.size hpn HN.out)
  clear ho3 RV hne hpn
  refine HI.out.mono ?_
  rintro _ w4 ⟨v4,rfl,ho4,hb4⟩
  go_wp2
  go_ret
  exact ⟨_,rfl,ho4,HB3.out.trans hb4⟩
 ·obtain rfl:p = xs.length:=by have:=HP.out; omega
  have HI:=hdq (znz w.heap.size xs.length vb v xs x w3 ho3 RV HB3.out.size HN.out)
  have e1:xs.take xs.length ++ x :: xs.drop xs.length = xs ++ [x]:=by rw [List.take_length,List.drop_length]
  have E1:=hdq e1
  clear ho3 RV hne hpn e1
  refine HI.out.mono ?_
  rintro _ w4 ⟨v4,rfl,ho4,hb4⟩
  go_wp2
  go_ret
  exact ⟨_,rfl,by rw [E1.out]; exact ho4,HB3.out.trans hb4⟩
theorem zuo (w:World):Calls Tryz.prog 69 #[.int .u16 999] w fun e w'=>e = .returned (.bool true)∧w' = w:=by
 go_enter Tryz.func69,Tryz.ntmps69
 go_wp2
 go_ret
 exact ⟨rfl,rfl⟩
set_option maxHeartbeats 1000000 in
theorem awake7 (w:World) (hG:Glb5 w):Calls Tryz.prog 232 #[] w fun e w'=>e = .returned (.bool true)∧Below w.heap.size w w':=by
 have HG:=hdq hG
 clear hG
 go_enter Tryz.func232,Tryz.ntmps232
 go_wp2_with fail
 have R:=Row.new w #[.int .u16 1,.int .u16 3] 56
 have HB:=hdq (zaa (Below.refl _ w) (.cells #[.int .u16 1,.int .u16 3] 56))
 obtain ⟨g,hg⟩:∃ g,g = w.heap.size:=⟨_,rfl⟩
 rw [← hg] at R
 rw [← hg]
 clear hg
 generalize w.alloc (.cells #[.int .u16 1,.int .u16 3] 56) = w1 at *
 have hp:PosN [1,3] 2 1:=by
  refine ⟨by simp,fun t ht=>?_,fun t h1 h2=>?_⟩
  ·obtain rfl:t = 0:=by omega
   show (1:Int) < 2
   omega
  ·have:t < 2:=h2
   obtain rfl:t = 1:=by omega
   show (2:Int)≤3
   omega
 refine (zli g 0 2 1 [1,3] 2 w1 (fun i hi=>by
  have hi:i < 2:=hi
  rw [R.cell]
  rcases i with _ | _ | i
  ·rfl
  ·rfl
  ·omega) (by show 2≤100000; omega) hp (fun h=>by have:=h.2; simp at this)).mono ?_
 rintro _ w2 ⟨v,rfl,ho,hb⟩
 have hN:NsAt .u16 w2 v [1,2,3]:=(NsAt.of_own (l:=[1,2,3]) ho).1
 have HB2:=hdq (zab HB.out hb)
 clear hb ho R hp
 go_wp2_with fail
 have R7:=Row.new w2 #[.int .u16 1,.int .u16 2,.int .u16 3] 56
 have B7:=zaa (Below.refl _ w2) (.cells #[.int .u16 1,.int .u16 2,.int .u16 3] 56)
 have hN2:NsAt .u16 (w2.alloc (.cells #[.int .u16 1,.int .u16 2,.int .u16 3] 56)) (.slice (some ⟨w2.heap.size,0,none⟩) 3 3) [1,2,3]:=NsAt.of_row (l:=[1,2,3]) R7
 have HE:=hdq (zdf _ _ [1,2,3] _ (hN.below B7) hN2 (by show 3≤1000000; omega))
 have HB3:=hdq (zab HB2.out B7)
 clear R7 B7 hN hN2
 refine HE.out.mono ?_
 rintro _ w3 ⟨rfl,hb3⟩
 have HB4:=hdq (zab HB3.out hb3)
 clear hb3 HE HB3
 go_wp2_with fail
 refine (zuo w3).mono ?_
 rintro _ _ ⟨rfl,rfl⟩
 go_wp2_with fail
 refine (awake6 _ (HG.out.below HB4.out)).mono ?_
 rintro _ w5 ⟨rfl,hb5⟩
 go_wp2
 go_ret
 exact ⟨rfl,zab HB4.out hb5⟩
theorem awake8 (w:World) (hG:Glb5 w):Calls Tryz.prog 220 #[] w fun e w'=>e = .returned (.bool true)∧Below w.heap.size w w':=zsh awake7 w hG
end Go.Proofs.YtlpdfglbdijkoaaGreatDoor