/-
  Own texts, several in one (Par9, Same14, Awake14, JoinF).
-/
import Derived.Test.YtlpdfglbdijkoaaGreatDoorMrg25
import Derived.Test.YtlpdfglbdijkoaaGreatDoorMrg17
import Derived.Test.YtlpdfglbdijkoaaGreatDoorMrg27
import Derived.Test.YtlpdfglbdijkoaaGreatDoorMrg22
import Derived.Test.YtlpdfglbdijkoaaGreatDoorMrg23
import Derived.Test.YtlpdfglbdijkoaaGreatDoorMrg21
import Derived.JoinedOf
import Derived.KernelRfl
import GoSem.ClaimSevenParts
import GoSem.ClaimGoes
import Derived.Test.YtlpdfglbdijkoaaGreatDoorProg
namespace Go.Proofs.YtlpdfglbdijkoaaGreatDoor
open Go.RowKit
set_option linter.unusedVariables false
set_option linter.unusedSimpArgs false
def okP (W:World) (e:Sc.Op × Value × Value):Prop:=PtsAt W e.2.1 e.1.parts∧NsAt .i32 W e.2.2 e.1.starts
def parseR (B:Nat) (r:Except (Nat × Nat) (List Sc.Op)) (e:Ending) (w':World):Prop :=
 match r with
 | .ok ops=>∃ (v:Value) (vals:List (Sc.Op × Value × Value)),e = .returned (.tuple #[v,.int .i64 0,.int .i64 0])∧w'.ownsRow B 47 8 v vals.length (vals.flatMap opE)∧vals.map (·.1) = ops∧∀ x ∈ vals,okP w' x
 | .error (p,c)=>e = .returned (.tuple #[.slice none 0 0,.int .i64 (p:Int),.int .i64 (c:Int)])
theorem zif (pd:List UInt8→Option Int):∀ (k:Nat) (l:List UInt8) (i:Nat),l.length≤k→∀ p e,Lx.split pd l i = .error (p,e)→e ≠ 0:=by
 refine Lx.split_ind (motive:=fun l i=>∀ p e,Lx.split pd l i = .error (p,e)→e ≠ 0) pd ?_ ?_ ?_ ?_ ?_
 ·intro i p e h
  rw [Lx.split_nil] at h
  cases h
 ·intro c r i hc ih p e h
  rw [Lx.split_blank pd c r i hc] at h
  exact ih p e h
 ·intro r i ih p e h
  rw [Lx.split_note] at h
  exact ih p e h
 ·intro c r i e0 h1 h2 h3 he p e h
  rw [Lx.split_err pd c r i e0 h1 h2 h3 he] at h
  cases h
  exact Lx.one_err pd _ _ he
 ·intro c r i t n h1 h2 h3 ho hn hl ih p e h
  rw [Lx.split_one pd c r i t n h1 h2 h3 ho] at h
  rcases hs:Lx.split pd ((c :: r).drop n) (i + n) with ⟨p2,e2⟩ | us
  ·rw [hs] at h
   cases h
   exact ih _ _ hs
  ·rw [hs] at h; cases h
theorem zjb {l:List UInt8} {p e:Nat} (h:lexSplit l = .error (p,e)):e ≠ 0:=by
 unfold lexSplit at h
 split at h
 ·cases h; omega
 ·exact zif Dy.parse _ l 0 (Nat.le_refl _) p e h
theorem zko {l:List UInt8} {ts:List Lx.Tk} (h:lexSplit l = .ok ts):Sc.Ended ts∧ts.length≤65537:=by
 unfold lexSplit at h
 split at h
 ·cases h
 ·have:=Sc.split_ended Dy.parse _ l 0 (Nat.le_refl _) ts h
  exact ⟨this.1,by omega⟩
theorem ztf (l:List UInt8):Sc.parse Dy.parse l = match lexSplit l with
  | .error e=>.error e
  | .ok ts=>Sc.parseOf 101 0 ts:=by
 unfold Sc.parse lexSplit
 by_cases h:65536 < l.length
 ·rw [if_pos h,if_pos h]
 ·rw [if_neg h,if_neg h]
  rcases Lx.split Dy.parse l 0 with e | ts <;> rfl
set_option maxHeartbeats 4000000 in
set_option maxRecDepth 100000 in
theorem zdo (tmps:Array Value) (R:Ending→World→Prop) (g1 g2 g3 p er:Nat) (v1:Value) (x2 x3:Int) (W:World) (R1:Row W g1 #[v1] 63) (R2:Row W g2 #[.int .i64 x2] 3) (R3:Row W g3 #[.int .i64 x3] 49) (h12:g1 ≠ g2) (h13:g1 ≠ g3) (h23:g2 ≠ g3)
  (ht2:tmps.getD 2 undef = .pointer (some ⟨g1,0,none⟩)) (ht3:tmps.getD 3 undef = .pointer (some ⟨g2,0,none⟩)) (ht4:tmps.getD 4 undef = .pointer (some ⟨g3,0,none⟩))
  (h:∀ w',Row w' g1 #[.slice none 0 0] 63→Row w' g2 #[.int .i64 (p:Int)] 3→Row w' g3 #[.int .i64 (er:Int)] 49→Only (three g1 g2 g3) W w'→R (.returned (.tuple #[.slice none 0 0,.int .i64 (p:Int),.int .i64 (er:Int)])) w') :
  Leaves Tryz.prog Tryz.f47 tmps R [{ target:=Target.fn (Fn.func 77) #[.pointer (some ⟨g1,0,none⟩),.pointer (some ⟨g2,0,none⟩),.pointer (some ⟨g3,0,none⟩)],args:=#[] }] (.panicking [{ v:=.iface 152 (.agg #[.int .i64 (p:Int),.int .i64 (er:Int)]),recovered:=false }]) W:=by
 refine leaves_cons (f:=77) (args:=#[.pointer (some ⟨g1,0,none⟩),.pointer (some ⟨g2,0,none⟩),.pointer (some ⟨g3,0,none⟩)]) (by simp) (by simp [go_sem]) ?_
 refine (zot g1 g2 g3 p er [] v1 x2 x3 W R1 R2 R3 h12 h13 h23).mono ?_
 rintro e u' w' ⟨rfl,rfl,⟨S1,S2,S3⟩,O⟩
 have c1:w'.cell? ⟨g1,0,none⟩ = some (.slice none 0 0):=S1.cell 0
 have c2:w'.cell? ⟨g2,0,none⟩ = some (.int .i64 (p:Int)):=S2.cell 0
 have c3:w'.cell? ⟨g3,0,none⟩ = some (.int .i64 (er:Int)):=S3.cell 0
 have hh:=h w' S1 S2 S3 O
 have ht2':tmps[2]?.getD undef = .pointer (some ⟨g1,0,none⟩):=by simpa using ht2
 have ht3':tmps[3]?.getD undef = .pointer (some ⟨g2,0,none⟩):=by simpa using ht3
 have ht4':tmps[4]?.getD undef = .pointer (some ⟨g3,0,none⟩):=by simpa using ht4
 refine ⟨_,?_,hh⟩
 simp [results,Tryz.results47,go_sem,ht2',ht3',ht4',c1,c2,c3]
set_option maxHeartbeats 4000000 in
set_option maxRecDepth 100000 in
theorem zgn (tmps:Array Value) (R:Ending→World→Prop) (g1 g2 g3:Nat) (pp:Option Addr) (nn cc:Nat) (x2 x3:Int) (W:World) (R1:Row W g1 #[.slice pp nn cc] 63) (R2:Row W g2 #[.int .i64 x2] 3) (R3:Row W g3 #[.int .i64 x3] 49)
  (ht2:tmps.getD 2 undef = .pointer (some ⟨g1,0,none⟩)) (ht3:tmps.getD 3 undef = .pointer (some ⟨g2,0,none⟩)) (ht4:tmps.getD 4 undef = .pointer (some ⟨g3,0,none⟩))
  (h:R (.returned (.tuple #[.slice pp nn cc,.int .i64 x2,.int .i64 x3])) W) :
  Leaves Tryz.prog Tryz.f47 tmps R [] .returning W:=by
 have c1:W.cell? ⟨g1,0,none⟩ = some (.slice pp nn cc):=R1.cell 0
 have c2:W.cell? ⟨g2,0,none⟩ = some (.int .i64 x2):=R2.cell 0
 have c3:W.cell? ⟨g3,0,none⟩ = some (.int .i64 x3):=R3.cell 0
 have ht2':tmps[2]?.getD undef = .pointer (some ⟨g1,0,none⟩):=by simpa using ht2
 have ht3':tmps[3]?.getD undef = .pointer (some ⟨g2,0,none⟩):=by simpa using ht3
 have ht4':tmps[4]?.getD undef = .pointer (some ⟨g3,0,none⟩):=by simpa using ht4
 refine ⟨_,?_,h⟩
 simp [results,Tryz.results47,go_sem,ht2',ht3',ht4',c1,c2,c3]
theorem znv (tmps:Array Value) (R:Ending→World→Prop) (g1 g2 g3:Nat) (pp:Option Addr) (nn cc:Nat) (x2 x3:Int) (W:World) (R1:Row W g1 #[.slice pp nn cc] 63) (R2:Row W g2 #[.int .i64 x2] 3) (R3:Row W g3 #[.int .i64 x3] 49)
  (ht2:tmps.getD 2 undef = .pointer (some ⟨g1,0,none⟩)) (ht3:tmps.getD 3 undef = .pointer (some ⟨g2,0,none⟩)) (ht4:tmps.getD 4 undef = .pointer (some ⟨g3,0,none⟩))
  (h:R (.returned (.tuple #[.slice pp nn cc,.int .i64 x2,.int .i64 x3])) W) :
  Leaves Tryz.prog Tryz.f47 tmps R [{ target:=Target.fn (Fn.func 77) #[.pointer (some ⟨g1,0,none⟩),.pointer (some ⟨g2,0,none⟩),.pointer (some ⟨g3,0,none⟩)],args:=#[] }] .returning W:=by
 refine leaves_cons (f:=77) (args:=#[.pointer (some ⟨g1,0,none⟩),.pointer (some ⟨g2,0,none⟩),.pointer (some ⟨g3,0,none⟩)]) (by simp) (by simp [go_sem]) ?_
 refine (zou g1 g2 g3 W).mono ?_
 rintro e u' w' ⟨rfl,rfl,rfl⟩
 exact zgn tmps R g1 g2 g3 pp nn cc x2 x3 w' R1 R2 R3 ht2 ht3 ht4 h
theorem tks_own {w:World} {B:Nat} {v:Value} {ts:List Lx.Tk} (h:w.ownsRow B 159 5 v ts.length (tks ts)) (hl:0 < ts.length):∃ b cap,v = .slice (some ⟨b,0,none⟩) ts.length cap∧TksAt w b 0 ts∧ts.length≤cap∧cap≤maxLen∧B≤b:=by
 have h2:=h
 obtain ⟨_,h0⟩:=h
 rcases h0 with ⟨_,h0⟩ | ⟨g,cap,cur,rfl,hB,h1,h3,h4,_⟩
 ·omega
 ·obtain ⟨_,p,c,e,hE⟩:=els_own h2
  cases e
  rcases hE with hE | ⟨b,off,e,hE⟩
  ·rw [hE] at hl; simp at hl
  ·cases e
   exact ⟨g,cap,rfl,hE,h3,h4,hB⟩
theorem ztk {w:World} {B B' n sz:Nat} {e:TypeId} {v:Value} {xs:List Value} (h:w.ownsRow B e sz v n xs) (hb:B'≤B):w.ownsRow B' e sz v n xs:=by
 obtain ⟨h1,h2⟩:=h
 refine ⟨h1,?_⟩
 rcases h2 with h2 | ⟨g,cap,cur,e1,e2,e3⟩
 ·exact .inl h2
 ·exact .inr ⟨g,cap,cur,e1,Nat.le_trans hb e2,e3⟩
theorem PtsAt.only {S:Nat→Prop} {w w':World} {v:Value} {l:List (Nat × Nat)} (h:PtsAt w v l) (hb:Only S w w') (hs:∀ g,v.ownBlock = some g→¬ S g):PtsAt w' v l:=by
 obtain ⟨p,cap,rfl,h⟩:=h
 exact ⟨p,cap,rfl,h.only hb fun x hx=>hs x.block (by rw [hx]; rfl)⟩
theorem zeh {S:Nat→Prop} {w w':World} {x:Sc.Op × Value × Value} (h:okP w x) (hb:Only S w w') (hs:∀ g,(x.2.1.ownBlock = some g∨x.2.2.ownBlock = some g)→¬ S g):okP w' x :=
 ⟨h.1.only hb fun g hg=>hs g (.inl hg),h.2.only hb fun g hg=>hs g (.inr hg)⟩
structure Mid (w:World) (B g1 g2 g3:Nat) (v:Value) (vals:List (Sc.Op × Value × Value)) (H:Nat) (W:World):Prop where
 r1:Row W g1 #[v] 63
 r2:Row W g2 #[.int .i64 0] 3
 r3:Row W g3 #[.int .i64 0] 49
 own:W.ownsRow B 47 8 v vals.length (vals.flatMap opE)
 ok:∀ x ∈ vals,okP W x∧∀ q,(x.2.1.ownBlock = some q∨x.2.2.ownBlock = some q)→B≤q∧q < H∧v.ownBlock ≠ some q
 vb:∀ q,v.ownBlock = some q→q < H
 below:Below w.heap.size w W
theorem Mid.only {S:Nat→Prop} {w W W':World} {B g1 g2 g3 H:Nat} {v:Value} {vals:List (Sc.Op × Value × Value)} (h:Mid w B g1 g2 g3 v vals H W) (O:Only S W W')
  (hs:∀ q,S q→q ≠ g1∧q ≠ g2∧q ≠ g3∧w.heap.size≤q∧(q < B∨H≤q)):Mid w B g1 g2 g3 v vals H W' :=
 ⟨O.row h.r1 fun e=>(hs _ e).1 rfl,O.row h.r2 fun e=>(hs _ e).2.1 rfl,O.row h.r3 fun e=>(hs _ e).2.2.1 rfl,
  O.own h.own fun q hq e=>by
   have:=(zbc h.own hq).1
   have:=h.vb q hq
   have:=(hs q e).2.2.2.2
   omega,
  fun x hx=>⟨zeh (h.ok x hx).1 O fun q hq e=>by
   have:=(h.ok x hx).2 q hq
   have:=(hs q e).2.2.2.2
   omega,(h.ok x hx).2⟩,h.vb,h.below.trans (O.below h.below.size fun k hk e=>by have:=(hs k e).2.2.2.1; omega)⟩
theorem Mid.done {w W W':World} {B g1 g2 g3 H:Nat} {v:Value} {vals:List (Sc.Op × Value × Value)} (h:Mid w B g1 g2 g3 v vals H W) (O:Only (three g1 g2 g3) W W') (hs:w.heap.size≤g1∧w.heap.size≤g2∧w.heap.size≤g3):Below w.heap.size w W' :=
 h.below.trans (O.below h.below.size fun k hk e=>by rcases e with e | e | e <;> omega)
set_option maxHeartbeats 4000000 in
set_option maxRecDepth 100000 in
theorem znm (s:ByteArray) (l:List UInt8) (hl:l = s.data.toList) (w:World) (hM:Glb13 w) (hRC:∀ k,k < 8→(∀ ops,Sc.parse Dy.parse l = .ok ops→∃ o ∈ ops,o.kind = k)→RestC k) :
  Calls Tryz.prog 47 #[.string s] w fun e w'=>parseR w.heap.size (Sc.parse Dy.parse l) e w'∧Below w.heap.size w w':=by
 have hmf:∀ (fn:Fn) (first cap:Array Value) (w:World),(Instr.makeFunc fn first cap).run Tryz.prog w = .ok (.func fn first cap) w:=fun _ _ _ _=>rfl
 go_enter_defers Tryz.func47,Tryz.ntmps47
 go_wp2_with fail
 have hM0:=hdq hM
 have HRC:=hdq hRC
 clear hRC
 have RA1:Row (((w.alloc (.cells #[.slice none 0 0] 63)).alloc (.cells #[.int .i64 0] 3)).alloc (.cells #[.int .i64 0] 49)) w.heap.size #[.slice none 0 0] 63:=((Row.new w _ _).alloc _).alloc _
 have hs1:(w.alloc (.cells #[.slice none 0 0] 63)).heap.size = w.heap.size + 1:=Array.size_push _
 have hs2:((w.alloc (.cells #[.slice none 0 0] 63)).alloc (.cells #[.int .i64 0] 3)).heap.size = w.heap.size + 1 + 1:=(Array.size_push _).trans (by rw [hs1])
 have RA2:Row (((w.alloc (.cells #[.slice none 0 0] 63)).alloc (.cells #[.int .i64 0] 3)).alloc (.cells #[.int .i64 0] 49)) (w.heap.size + 1) #[.int .i64 0] 3:=(Row.new' _ _ _ hs1.symm).alloc _
 have RA3:Row (((w.alloc (.cells #[.slice none 0 0] 63)).alloc (.cells #[.int .i64 0] 3)).alloc (.cells #[.int .i64 0] 49)) (w.heap.size + 1 + 1) #[.int .i64 0] 49:=Row.new' _ _ _ hs2.symm
 have B0:Below w.heap.size w (((w.alloc (.cells #[.slice none 0 0] 63)).alloc (.cells #[.int .i64 0] 3)).alloc (.cells #[.int .i64 0] 49)):=zaa (zaa (zaa (Below.refl _ w) _) _) _
 clear hs1 hs2 hM
 generalize ((w.alloc (.cells #[.slice none 0 0] 63)).alloc (.cells #[.int .i64 0] 3)).alloc (.cells #[.int .i64 0] 49) = w0 at *
 obtain ⟨g3,hg3⟩:∃ x,x = w.heap.size + 1 + 1:=⟨_,rfl⟩
 rw [← hg3] at RA3 ⊢
 obtain ⟨g2,hg2⟩:∃ x,x = w.heap.size + 1:=⟨_,rfl⟩
 rw [← hg2] at RA2 ⊢
 have HG:=hdq (show w.heap.size ≠ g2∧w.heap.size ≠ g3∧g2 ≠ g3∧w.heap.size≤g2∧w.heap.size≤g3 by omega)
 clear hg3 hg2
 have hM1:=hM0.out.below B0
 refine (zig s l hl w0 hM1.g5).mono ?_
 rintro _ w1 ⟨⟨r,rfl,hr⟩,hb1⟩
 have R1:=RA1.below hb1
 have R2:=RA2.below hb1
 have R3:=RA3.below hb1
 have B1:=zab B0 hb1
 have HPO:=hdq (ztf l)
 have c1:w1.cell? ⟨w.heap.size,0,none⟩ = some (.slice none 0 0):=R1.cell 0
 have c2:w1.cell? ⟨g2,0,none⟩ = some (.int .i64 0):=R2.cell 0
 have c3:w1.cell? ⟨g3,0,none⟩ = some (.int .i64 0):=R3.cell 0
 have z1:=R1.frozen 0
 have z2:=R2.frozen 0
 have z3:=R3.frozen 0
 have HR:=hdq (And.intro R1 (And.intro R2 (And.intro R3 (And.intro B1 hb1))))
 have HSZ:=hdq (And.intro RA1.lt (And.intro RA2.lt RA3.lt))
 clear R1 R2 R3 B1 hb1 RA1 RA2 RA3 B0 hM1
 rcases hsp:lexSplit l with ⟨p,c⟩ | ts
 ·rw [hsp] at hr
  obtain rfl:r = .tuple #[.slice none 0 0,.int .i64 (p:Int),.int .i64 (c:Int)]:=hr
  have hc:¬ (c:Int) = 0:=by have:=zjb hsp; omega
  have HS:=hdq hsp
  clear hsp
  have h12:=HG.out.1
  have h13:=HG.out.2.1
  have h23:=HG.out.2.2.1
  have h21:=h12.symm
  have h31:=h13.symm
  have h32:=h23.symm
  go_wp2_with fail
  have hR:=HR.out
  have S1:=(hR.1.other ⟨g2,0,none⟩ h12 (.int .i64 (p:Int))).other ⟨g3,0,none⟩ h13 (.int .i64 (c:Int))
  have S2:=(hR.2.1.set 0 (.int .i64 (p:Int))).other ⟨g3,0,none⟩ h23 (.int .i64 (c:Int))
  have S3:=(hR.2.2.1.other ⟨g2,0,none⟩ h32 (.int .i64 (p:Int))).set 0 (.int .i64 (c:Int))
  have SB:=zar (zar hR.2.2.2.1 HG.out.2.2.2.1 0 (.int .i64 (p:Int))) HG.out.2.2.2.2 0 (.int .i64 (c:Int))
  clear c1 c2 c3 z1 z2 z3 hR HR HSZ
  generalize (w1.setCell ⟨g2,0,none⟩ (.int .i64 (p:Int))).setCell ⟨g3,0,none⟩ (.int .i64 (c:Int)) = w2 at *
  have c1:w2.cell? ⟨w.heap.size,0,none⟩ = some (.slice none 0 0):=S1.cell 0
  have c2:w2.cell? ⟨g2,0,none⟩ = some (.int .i64 (p:Int)):=S2.cell 0
  have c3:w2.cell? ⟨g3,0,none⟩ = some (.int .i64 (c:Int)):=S3.cell 0
  have z1:=S1.frozen 0
  have z2:=S2.frozen 0
  have z3:=S3.frozen 0
  have HSS:=hdq (And.intro S1 (And.intro S2 (And.intro S3 SB)))
  clear S1 S2 S3 SB
  go_region
  all_goals (go_wp2_with fail)
  have hS:=HSS.out
  have T1:=((hS.1.set 0 (.slice none 0 0)).other ⟨g2,0,none⟩ h12 (.int .i64 (p:Int))).other ⟨g3,0,none⟩ h13 (.int .i64 (c:Int))
  have T2:=((hS.2.1.other ⟨w.heap.size,0,none⟩ h21 (.slice none 0 0)).set 0 (.int .i64 (p:Int))).other ⟨g3,0,none⟩ h23 (.int .i64 (c:Int))
  have T3:=((hS.2.2.1.other ⟨w.heap.size,0,none⟩ h31 (.slice none 0 0)).other ⟨g2,0,none⟩ h32 (.int .i64 (p:Int))).set 0 (.int .i64 (c:Int))
  have TB:=zar (zar (zar hS.2.2.2 (Nat.le_refl _) 0 (.slice none 0 0)) HG.out.2.2.2.1 0 (.int .i64 (p:Int))) HG.out.2.2.2.2 0 (.int .i64 (c:Int))
  show Leaves _ _ _ _ _ _ _
  refine zgn _ _ w.heap.size g2 g3 none 0 0 (p:Int) (c:Int) _ T1.drew T2.drew T3.drew ?_ ?_ ?_ ?_
  ·rfl
  ·rfl
  ·rfl
  ·exact ⟨by rw [HPO.out,HS.out]; rfl,TB.drew⟩
 ·rw [hsp] at hr
  obtain ⟨v,rfl,how⟩:∃ v,r = .tuple #[v,.int .i64 0,.int .i64 0]∧w1.ownsRow w0.heap.size 159 5 v ts.length (tks ts):=hr
  have hEn:=zko hsp
  obtain ⟨b,cap,rfl,hTk,hc1,hc2,hbb⟩:=tks_own how hEn.1.ne
  have HS:=hdq hsp
  have HT:=hdq (And.intro hTk (And.intro hc1 (And.intro hc2 (And.intro hbb hEn))))
  clear hsp how hEn hTk hc1 hc2 hbb
  have h12:=HG.out.1
  have h13:=HG.out.2.1
  have h23:=HG.out.2.2.1
  have h21:=h12.symm
  have h31:=h13.symm
  have h32:=h23.symm
  go_wp2_with fail
  have hR:=HR.out
  have S1:=((hR.1.other ⟨g2,0,none⟩ h12 (.int .i64 0)).other ⟨g3,0,none⟩ h13 (.int .i64 0)).alloc (.cells #[.slice (some ⟨b,0,none⟩) ts.length cap] 156)
  have S2:=((hR.2.1.set 0 (.int .i64 0)).other ⟨g3,0,none⟩ h23 (.int .i64 0)).alloc (.cells #[.slice (some ⟨b,0,none⟩) ts.length cap] 156)
  have S3:=((hR.2.2.1.other ⟨g2,0,none⟩ h32 (.int .i64 0)).set 0 (.int .i64 0)).alloc (.cells #[.slice (some ⟨b,0,none⟩) ts.length cap] 156)
  have SB:=zaa (zar (zar hR.2.2.2.1 HG.out.2.2.2.1 0 (.int .i64 0)) HG.out.2.2.2.2 0 (.int .i64 0)) (.cells #[.slice (some ⟨b,0,none⟩) ts.length cap] 156)
  have SO:Only (three w.heap.size g2 g3) w1 (((w1.setCell ⟨g2,0,none⟩ (.int .i64 0)).setCell ⟨g3,0,none⟩ (.int .i64 0)).alloc (.cells #[.slice (some ⟨b,0,none⟩) ts.length cap] 156)):=(((Only.refl (three w.heap.size g2 g3) w1).setCell (p:=⟨g2,0,none⟩) (.inl (.inr (.inl rfl))) _).setCell (p:=⟨g3,0,none⟩) (.inl (.inr (.inr rfl))) _).alloc _
  have hsz1:((w1.setCell ⟨g2,0,none⟩ (.int .i64 0)).setCell ⟨g3,0,none⟩ (.int .i64 0)).heap.size = w1.heap.size:=by simp [World.setCell]
  have SG:Row (((w1.setCell ⟨g2,0,none⟩ (.int .i64 0)).setCell ⟨g3,0,none⟩ (.int .i64 0)).alloc (.cells #[.slice (some ⟨b,0,none⟩) ts.length cap] 156)) w1.heap.size #[.slice (some ⟨b,0,none⟩) ts.length cap] 156:=Row.new' _ _ _ hsz1.symm
  have hsz2:(((w1.setCell ⟨g2,0,none⟩ (.int .i64 0)).setCell ⟨g3,0,none⟩ (.int .i64 0)).alloc (.cells #[.slice (some ⟨b,0,none⟩) ts.length cap] 156)).heap.size = w1.heap.size + 1:=(Array.size_push _).trans (by rw [hsz1])
  have hT:=HT.out
  have hsz:=HSZ.out
  have hsw:=hR.2.2.2.2.size
  have hbl:b < w1.heap.size:=block_lt_of_cell (hT.1.hd hT.2.2.2.2.1.ne).1
  have hT1:=hT.1.only SO (fun e=>by rcases e with e | e | e <;> have:=hT.2.2.2.1 <;> omega)
  clear c1 c2 c3 z1 z2 z3 hR hsz1
  generalize ((w1.setCell ⟨g2,0,none⟩ (.int .i64 0)).setCell ⟨g3,0,none⟩ (.int .i64 0)).alloc (.cells #[.slice (some ⟨b,0,none⟩) ts.length cap] 156) = wS at *
  have hps:PsAt wS w1.heap.size b ts:=⟨0,cap,SG,hT1,hT.2.1,hT.2.2.1,by omega⟩
  obtain ⟨g,hg⟩:∃ x,x = w1.heap.size:=⟨_,rfl⟩
  rw [← hg] at hps hsz2 hbl ⊢
  obtain ⟨g1,hg1⟩:∃ x,x = w.heap.size:=⟨_,rfl⟩
  rw [← hg1] at S1 h12 h13 h21 h31 ⊢
  have HN:=hdq (show (g1 ≠ g2∧g1 ≠ g3∧g2 ≠ g3)∧(g1 < g∧g2 < g∧g3 < g)∧(w.heap.size≤g1∧w.heap.size≤g2∧w.heap.size≤g3∧w.heap.size≤g)∧b < g∧g < wS.heap.size∧(b ≠ g1∧b ≠ g2∧b ≠ g3) from by
   have:=hT.2.2.2.1
   have:=HG.out
   omega)
  obtain ⟨res,hres⟩:∃ r,r = Sc.parseOf 101 0 ts:=⟨_,rfl⟩
  have HPP:=hdq (show Sc.parse Dy.parse l = res by rw [HPO.out,HS.out]; exact hres.symm)
  have hmid:Mid w wS.heap.size g1 g2 g3 (.slice none 0 0) [] wS.heap.size wS:=⟨S1,S2,S3,⟨rfl,.inl ⟨rfl,rfl⟩⟩,(fun x hx=>by cases hx),(fun q hq=>by cases hq),SB⟩
  have H0:=hdq (And.intro hmid (And.intro hps (And.intro hT.2.2.2.2 hres)))
  clear S1 S2 S3 SB SO SG hsz2 hT hsz hsw hbl hT1 hps hg hg1 hmid hres HS HT HR HSZ HPO HG h12 h13 h23 h21 h31 h32
  go_loopw [7] (fun zv wr=>∃ (vals:List (Sc.Op × Value × Value)) (lr:List Lx.Tk) (v:Value),Mid w wS.heap.size g1 g2 g3 v vals wr.heap.size wr∧PsAt wr g b lr∧(Sc.Ended lr∧lr.length≤65537)∧vals.length≤100∧wS.heap.size≤wr.heap.size∧res = Sc.preO (vals.map (·.1)) (Sc.parseOf (101 - vals.length) vals.length lr)) (fun _ wr=>101 - lenOf ((wr.cell? ⟨g1,0,none⟩).getD undef))
  case atStart =>
   have h:=H0.out
   exact ⟨[],ts,_,h.1,h.2.1,h.2.2.1,by simp,Nat.le_refl _,by rw [h.2.2.2]; exact (Sc.preO_nil _).symm⟩
  case round =>
   clear H0
   obtain ⟨vals,lr,v,hm,hp,hE,hle,hsz,hrel⟩:=hrel
   obtain ⟨po,co,rfl⟩:=zqg hm.own
   have HMI:=hdq hm
   have HP:=hdq hp
   have HE:=hdq hE
   have HZ:=hdq (And.intro hle hsz)
   have c1:wr.cell? ⟨g1,0,none⟩ = some (.slice po vals.length co):=hm.r1.cell 0
   obtain ⟨off,c,RG,hTk,_,_,_⟩:=hp
   have cg:wr.cell? ⟨g,0,none⟩ = some (.slice (some ⟨b,off,none⟩) lr.length c):=RG.cell 0
   have hl:=hE.1.ne
   obtain ⟨k0,_,_,_,k4⟩:=hTk.hd hl
   have i1:(0:Int) < (lr.length:Int):=by omega
   obtain ⟨f,hf⟩:∃ f,101 - vals.length = f + 1:=⟨100 - vals.length,by omega⟩
   rw [hf] at hrel
   have HREL:=hdq hrel
   have HF:=hdq hf
   clear hm hE hle hsz hrel RG hTk hl hf
   by_cases hk:(Sc.hd lr).kind = 0
   ·have c2:wr.cell? ⟨g2,0,none⟩ = some (.int .i64 0):=HMI.out.r2.cell 0
    have c3:wr.cell? ⟨g3,0,none⟩ = some (.int .i64 0):=HMI.out.r3.cell 0
    have z1:=HMI.out.r1.frozen 0
    have z2:=HMI.out.r2.frozen 0
    have z3:=HMI.out.r3.frozen 0
    have k00:wr.cell? ⟨b,off,none⟩ = some (.int .i64 0):=by rw [k0,hk]; rfl
    have HK:=hdq hk
    have h12:=HN.out.1.1
    have h13:=HN.out.1.2.1
    have h23:=HN.out.1.2.2
    have h21:=h12.symm
    have h31:=h13.symm
    have h32:=h23.symm
    clear k0 hk
    go_wp2_with fail
    have hm:=HMI.out
    have T1:=((hm.r1.set 0 (.slice po vals.length co)).other ⟨g2,0,none⟩ h12 (.int .i64 0)).other ⟨g3,0,none⟩ h13 (.int .i64 0)
    have T2:=((hm.r2.other ⟨g1,0,none⟩ h21 (.slice po vals.length co)).set 0 (.int .i64 0)).other ⟨g3,0,none⟩ h23 (.int .i64 0)
    have T3:=((hm.r3.other ⟨g1,0,none⟩ h31 (.slice po vals.length co)).other ⟨g2,0,none⟩ h32 (.int .i64 0)).set 0 (.int .i64 0)
    have TO:Only (three g1 g2 g3) wr (((wr.setCell ⟨g1,0,none⟩ (.slice po vals.length co)).setCell ⟨g2,0,none⟩ (.int .i64 0)).setCell ⟨g3,0,none⟩ (.int .i64 0)):=(((Only.refl (three g1 g2 g3) wr).setCell (p:=⟨g1,0,none⟩) (.inl (.inl rfl)) _).setCell (p:=⟨g2,0,none⟩) (.inl (.inr (.inl rfl))) _).setCell (p:=⟨g3,0,none⟩) (.inl (.inr (.inr rfl))) _
    have hgs:∀ k,three g1 g2 g3 k→k < wS.heap.size:=fun k e=>by
     have:=HN.out.2.1
     have:=HN.out.2.2.2.2.1
     rcases e with e | e | e <;> omega
    show Leaves _ _ _ _ _ _ _
    refine znv _ _ g1 g2 g3 po vals.length co 0 0 _ T1 T2 T3 ?_ ?_ ?_ ?_
    ·rfl
    ·rfl
    ·rfl
    ·refine ⟨?_,hm.done TO ⟨HN.out.2.2.1.1,HN.out.2.2.1.2.1,HN.out.2.2.1.2.2.1⟩⟩
     rw [HPP.out,HREL.out,Sc.parseOf_end HK.out]
     exact ⟨_,vals,rfl,ztk (zlx hm.own TO hgs) (by have:=HN.out; omega),by simp,fun x hx=>zeh (hm.ok x hx).1 TO fun q hq e=>by
      have:=(hm.ok x hx).2 q hq
      have:=hgs q e
      omega⟩
   ·have j0:¬ ((Sc.hd lr).kind:Int) = 0:=by omega
    have HK:=hdq hk
    clear hk
    by_cases hn:vals.length = 100
    ·have i8:(vals.length:Int) = 100:=by omega
     go_wp2_with fail
     refine (zfh 2 g b lr wr HP.out HE.out.1.ne).mono ?_
     rintro _ wr ⟨rfl,rfl⟩
     unfold stopE
     go_wp2_with fail
     have hm:=HMI.out
     show Leaves _ _ _ _ _ _ _
     refine zdo _ _ g1 g2 g3 (Sc.hd lr).pos 2 _ 0 0 _ hm.r1 hm.r2 hm.r3 HN.out.1.1 HN.out.1.2.1 HN.out.1.2.2 ?_ ?_ ?_ ?_
     ·rfl
     ·rfl
     ·rfl
     ·intro w' _ _ _ O
      refine ⟨?_,hm.done O ⟨HN.out.2.2.1.1,HN.out.2.2.1.2.1,HN.out.2.2.1.2.2.1⟩⟩
      rw [HPP.out,HREL.out,hn,Sc.parseOf_full HK.out]
      rfl
    ·have i8:¬ (vals.length:Int) = 100:=by omega
     have HN8:=hdq hn
     clear hn
     go_wp2_with fail
     obtain ⟨pos,hpos⟩:∃ x,x = (Sc.hd lr).pos:=⟨_,rfl⟩
     rw [← hpos] at k4 ⊢
     have HPOS:=hdq hpos
     have RA:Row (wr.alloc (.cells #[.int .i64 0,.int .u32 0,.int .u32 0,.string ⟨#[]⟩,.slice none 0 0,.slice none 0 0,.int .i32 0,.int .i64 (pos:Int)] 47)) wr.heap.size #[.int .i64 0,.int .u32 0,.int .u32 0,.string ⟨#[]⟩,.slice none 0 0,.slice none 0 0,.int .i32 0,.int .i64 (pos:Int)] 47:=Row.new wr _ _
     have OA:Only (fun _=>False) wr (wr.alloc (.cells #[.int .i64 0,.int .u32 0,.int .u32 0,.string ⟨#[]⟩,.slice none 0 0,.slice none 0 0,.int .i32 0,.int .i64 (pos:Int)] 47)):=(Only.refl _ wr).alloc _
     have mA:=HMI.out.only OA (fun q h=>h.elim)
     have pA:=HP.out.only OA (fun h=>h) (fun h=>h)
     clear hpos k0 k4 cg
     generalize wr.alloc (.cells #[.int .i64 0,.int .u32 0,.int .u32 0,.string ⟨#[]⟩,.slice none 0 0,.slice none 0 0,.int .i32 0,.int .i64 (pos:Int)] 47) = wA at *
     obtain ⟨ho,hho⟩:∃ x,x = wr.heap.size:=⟨_,rfl⟩
     rw [← hho] at RA ⊢
     have HHO:=hdq hho
     have HSG:Hid (∀ q,q = g→q ≠ g1∧q ≠ g2∧q ≠ g3∧w.heap.size≤q∧(q < wS.heap.size∨wr.heap.size≤q)):=hdq (fun q e=>by have:=HN.out; omega)
     have HSH:Hid (∀ q,q = ho→q ≠ g1∧q ≠ g2∧q ≠ g3∧w.heap.size≤q∧(q < wS.heap.size∨wr.heap.size≤q)):=hdq (fun q e=>by have:=HN.out; have:=HZ.out; omega)
     have HNE:=hdq (show ¬ ho = g∧¬ b = ho∧¬ g = ho∧w.heap.size≤ho∧wS.heap.size≤ho∧ho ≠ g1 by have:=HN.out; have:=HZ.out; omega)
     have HRA:=hdq RA
     clear RA hho OA
     refine (zqb g b lr w wA hM0.out mA.below HN.out.2.2.1.2.2.2 pA HE.out.1).mono ?_
     rintro e1 w2 ⟨hr1,O1⟩
     have m2:=mA.only O1 HSG.out
     have HMB:=hdq m2
     rcases hk:Sc.kindOf lr with _ | k
     ·rw [hk] at hr1
      have he:e1 = stopE (Sc.hd lr).pos 17:=hr1
      rw [he]
      have HKK:=hdq hk
      clear hr1 O1 m2 mA pA hk he
      unfold stopE
      go_wp2_with fail
      have hm:=HMB.out
      show Leaves _ _ _ _ _ _ _
      refine zdo _ _ g1 g2 g3 (Sc.hd lr).pos 17 _ 0 0 _ hm.r1 hm.r2 hm.r3 HN.out.1.1 HN.out.1.2.1 HN.out.1.2.2 ?_ ?_ ?_ ?_
      ·rfl
      ·rfl
      ·rfl
      ·intro w' _ _ _ O
       refine ⟨?_,hm.done O ⟨HN.out.2.2.1.1,HN.out.2.2.1.2.1,HN.out.2.2.1.2.2.1⟩⟩
       rw [HPP.out,HREL.out,Sc.parseOf_word HK.out HN8.out HKK.out]
       rfl
     ·rw [hk] at hr1
      obtain ⟨he,p2⟩:e1 = .returned (.int .i64 (k:Int))∧PsAt w2 g b lr.tail:=hr1
      rw [he]
      have hk8:=Sc.kindOf_is hk
      have hE2:=HE.out.1.tail (show (Sc.hd lr).kind ≠ 0 from HK.out)
      have R2:=O1.row HRA.out HNE.out.1
      have b0:w2.cell? ⟨ho,0,none⟩ = some (.int .i64 0):=R2.cell 0
      have z0:=R2.frozen 0
      have RB:Row (w2.setCell ⟨ho,0,none⟩ (.int .i64 (k:Int))) ho (opc (opK k pos) (.slice none 0 0) (.slice none 0 0)).toArray 47:=R2.set 0 _
      have SH:=zfd w2 ho 0 (.int .i64 (k:Int))
      have mB:=m2.only SH HSH.out
      have pB:=p2.only SH HNE.out.2.2.1 HNE.out.2.1
      have HKK:=hdq hk
      have HK8:=hdq hk8
      have H2:=hdq (And.intro RB (And.intro mB (And.intro pB hE2)))
      clear O1 m2 mA pA hk he hk8 R2 RB SH mB pB p2 hE2 HMB
      go_wp2_with fail
      generalize (w2.setCell ⟨ho,0,none⟩ (.int .i64 (k:Int))) = wB at *
      refine (HRC.out k HK8.out.1 (fun ops ho=>znl (by omega) (HREL.out.symm.trans (HPP.out.symm.trans ho)) HK.out HN8.out HKK.out) g b ho pos lr.tail w wB hM0.out H2.out.2.1.below HN.out.2.2.1.2.2.2 HNE.out.2.2.2.1 H2.out.2.2.1 H2.out.2.2.2 (by rw [List.length_tail]; have:=HE.out.2; omega) H2.out.1 HNE.out.2.2.1 HNE.out.2.1).mono ?_
      rintro e3 w3 ⟨hr3,O3⟩
      have m3:=H2.out.2.1.only O3 (fun q e=>by
       rcases e with e | e
       ·exact HSG.out q e
       ·exact HSH.out q e)
      have HMC:=hdq m3
      have hszB:wS.heap.size≤wB.heap.size:=by have:=H2.out.1.lt; have:=HNE.out; omega
      have HSB:=hdq (And.intro hszB (show ho < wB.heap.size from H2.out.1.lt))
      rcases hr:Sc.restOf k lr.tail with ⟨p,c'⟩ | ⟨o,l1⟩
      ·rw [hr] at hr3
       have he:e3 = stopE p c':=hr3
       rw [he]
       have HRR:=hdq hr
       clear hr3 O3 m3 hr he hszB b0 z0
       unfold stopE
       go_wp2_with fail
       have hm:=HMC.out
       show Leaves _ _ _ _ _ _ _
       refine zdo _ _ g1 g2 g3 p c' _ 0 0 _ hm.r1 hm.r2 hm.r3 HN.out.1.1 HN.out.1.2.1 HN.out.1.2.2 ?_ ?_ ?_ ?_
       ·rfl
       ·rfl
       ·rfl
       ·intro w' _ _ _ O
        refine ⟨?_,hm.done O ⟨HN.out.2.2.1.1,HN.out.2.2.1.2.1,HN.out.2.2.1.2.2.1⟩⟩
        rw [HPP.out,HREL.out,Sc.parseOf_rest HK.out HN8.out HKK.out HRR.out]
        rfl
      ·rw [hr] at hr3
       obtain ⟨he,p3,v1,v2,R3,q1,q2,hfr⟩:e3 = .returned (.tuple #[])∧PsAt w3 g b l1∧∃ v1 v2,Row w3 ho (opc { o with pos:=pos } v1 v2).toArray 47∧PtsAt w3 v1 o.parts∧NsAt .i32 w3 v2 o.starts∧∀ q,(v1.ownBlock = some q∨v2.ownBlock = some q)→wB.heap.size≤q∧q < w3.heap.size:=hr3
       rw [he]
       have hE3:=Sc.restOf_ended hr H2.out.2.2.2
       obtain ⟨a1,n1,d1,rfl⟩:∃ p n c,v1 = .slice p n c:=by obtain ⟨p,c,e,_⟩:=q1; exact ⟨_,_,_,e⟩
       obtain ⟨a2,n2,d2,rfl⟩:∃ p n c,v2 = .slice p n c:=by obtain ⟨p,c,e,_⟩:=q2; exact ⟨_,_,_,e⟩
       have HRR:=hdq hr
       have H3:=hdq (And.intro R3 (And.intro q1 (And.intro q2 (And.intro hfr (And.intro p3 hE3)))))
       clear O3 m3 hr he hszB b0 z0 R3 q1 q2 hfr p3 hE3
       go_wp2_with fail
       refine (zhf 5 [59] g b l1 w3 H3.out.2.2.2.2.1 H3.out.2.2.2.2.2.1 (by omega)).mono ?_
       rintro e4 w4 ⟨hr4,O4⟩
       have m4:=HMC.out.only O4 HSG.out
       have HMD:=hdq m4
       rcases hmu:Sc.must 5 [59] l1 with ⟨p,c'⟩ | ⟨t,l2⟩
       ·rw [hmu] at hr4
        have he:e4 = stopE p c':=hr4
        rw [he]
        have HMU:=hdq hmu
        clear hr4 O4 m4 hmu he
        unfold stopE
        go_wp2_with fail
        have hm:=HMD.out
        show Leaves _ _ _ _ _ _ _
        refine zdo _ _ g1 g2 g3 p c' _ 0 0 _ hm.r1 hm.r2 hm.r3 HN.out.1.1 HN.out.1.2.1 HN.out.1.2.2 ?_ ?_ ?_ ?_
        ·rfl
        ·rfl
        ·rfl
        ·intro w' _ _ _ O
         refine ⟨?_,hm.done O ⟨HN.out.2.2.1.1,HN.out.2.2.1.2.1,HN.out.2.2.1.2.2.1⟩⟩
         rw [HPP.out,HREL.out,Sc.parseOf_must HK.out HN8.out HKK.out HRR.out HMU.out]
         rfl
       ·rw [hmu] at hr4
        obtain ⟨he,p4⟩:e4 = .returned (.agg (tk t).toArray)∧PsAt w4 g b l2:=hr4
        rw [he]
        have hE4:=Sc.must_ended hmu (by omega) H3.out.2.2.2.2.2.1
        have HMU:=hdq hmu
        obtain ⟨oo,hoo⟩:∃ x:Sc.Op,x = { o with pos:=pos }:=⟨_,rfl⟩
        have h3:=H3.out
        have hgf:∀ q,((Value.slice a1 n1 d1).ownBlock = some q∨(Value.slice a2 n2 d2).ownBlock = some q)→¬ q = g:=fun q hq e=>by
         have:=h3.2.2.2.1 q hq
         have:=HSB.out
         have:=HN.out.2.2.2.2.1
         omega
        have hok:okP w4 (oo,Value.slice a1 n1 d1,Value.slice a2 n2 d2):=by
         rw [hoo]
         exact ⟨h3.2.1.only O4 (fun q hq=>hgf q (.inl hq)),h3.2.2.1.only O4 (fun q hq=>hgf q (.inr hq))⟩
        have R4:=O4.row h3.1 HNE.out.1
        rw [← hoo] at R4
        have R4:Row w4 ho #[.int .i64 (oo.kind:Int),.int .u32 (oo.fr:Int),.int .u32 (oo.too:Int),.string ⟨oo.name.toArray⟩,.slice a1 n1 d1,.slice a2 n2 d2,.int .i32 oo.fin,.int .i64 (oo.pos:Int)] 47:=R4
        have m4':=m4
        obtain ⟨v6,w6,hr6,ho6,hb6,hk6,hv6,hsz6⟩:=zsj (w4.alloc (.cells #[.int .i64 (oo.kind:Int),.int .u32 (oo.fr:Int),.int .u32 (oo.too:Int),.string ⟨oo.name.toArray⟩,.slice a1 n1 d1,.slice a2 n2 d2,.int .i32 oo.fin,.int .i64 (oo.pos:Int)] 47)) wS.heap.size 63 _ vals.length vals (zan m4.own _) w4.heap.size oo a1 a2 n1 n2 d1 d2 (Row.new w4 _ _) (by have:=HZ.out; omega) (by have:=m4.r1.lt; have:=O4.size; have:=R4.lt; have:=HNE.out; have:=(Only.alloc (Only.refl (fun _=>False) w4) (.cells #[.int .i64 (oo.kind:Int),.int .u32 (oo.fr:Int),.int .u32 (oo.too:Int),.string ⟨oo.name.toArray⟩,.slice a1 n1 d1,.slice a2 n2 d2,.int .i32 oo.fin,.int .i64 (oo.pos:Int)] 47)).size; omega)
        have OB:Only (fun _=>False) w4 (w4.alloc (.cells #[.int .i64 (oo.kind:Int),.int .u32 (oo.fr:Int),.int .u32 (oo.too:Int),.string ⟨oo.name.toArray⟩,.slice a1 n1 d1,.slice a2 n2 d2,.int .i32 oo.fin,.int .i64 (oo.pos:Int)] 47)):=(Only.refl _ w4).alloc _
        have hszC:(w4.alloc (.cells #[.int .i64 (oo.kind:Int),.int .u32 (oo.fr:Int),.int .u32 (oo.too:Int),.string ⟨oo.name.toArray⟩,.slice a1 n1 d1,.slice a2 n2 d2,.int .i32 oo.fin,.int .i64 (oo.pos:Int)] 47)).heap.size = w4.heap.size + 1:=Array.size_push _
        have O6:Only (fun q=>(Value.slice po vals.length co).ownBlock = some q) (w4.alloc (.cells #[.int .i64 (oo.kind:Int),.int .u32 (oo.fr:Int),.int .u32 (oo.too:Int),.string ⟨oo.name.toArray⟩,.slice a1 n1 d1,.slice a2 n2 d2,.int .i32 oo.fin,.int .i64 (oo.pos:Int)] 47)) w6:=⟨hb6.os,hb6.tape,hb6.output,hb6.size,fun q hq hn=>hk6 q hq hn⟩
        have hwr4:wr.heap.size≤w4.heap.size:=by have:=R4.lt; have:=HHO.out; omega
        have hng:∀ q,q < wS.heap.size→¬ (Value.slice po vals.length co).ownBlock = some q:=fun q hq e=>by have:=(zbc m4.own e).1; omega
        have hnn:=HN.out
        have r1:Row w6 g1 #[.slice po vals.length co] 63:=O6.row (OB.row m4.r1 (fun h=>h)) (hng _ (by omega))
        have r2:=O6.row (OB.row m4.r2 (fun h=>h)) (hng _ (by omega))
        have r3:=O6.row (OB.row m4.r3 (fun h=>h)) (hng _ (by omega))
        have p6:PsAt w6 g b l2:=(p4.only OB (fun h=>h) (fun h=>h)).only O6 (hng _ (by omega)) (hng _ (by omega))
        have hb8:Below w.heap.size w w6:=(m4.below.trans (OB.below (S:=fun _=>False) m4.below.size (fun k hk h=>h))).trans (hb6.mono (by omega))
        have hall:∀ x ∈ vals ++ [(oo,Value.slice a1 n1 d1,Value.slice a2 n2 d2)],okP w6 x∧∀ q,(x.2.1.ownBlock = some q∨x.2.2.ownBlock = some q)→wS.heap.size≤q∧q < w6.heap.size∧v6.ownBlock ≠ some q:=fun x hx=>by
         have key:okP w4 x∧∀ q,(x.2.1.ownBlock = some q∨x.2.2.ownBlock = some q)→wS.heap.size≤q∧q < w4.heap.size∧¬ (Value.slice po vals.length co).ownBlock = some q:=by
          rcases List.mem_append.1 hx with hx | hx
          ·have h:=m4.ok x hx
           exact ⟨h.1,fun q hq=>by have:=h.2 q hq; exact ⟨this.1,by omega,this.2.2⟩⟩
          ·obtain rfl:=List.mem_singleton.1 hx
           refine ⟨hok,fun q hq=>?_⟩
           have h5:=h3.2.2.2.1 q hq
           have h6:=HSB.out
           have h7:=O4.size
           refine ⟨by omega,by omega,fun e=>?_⟩
           have:=m4.vb q e
           have:=HHO.out
           omega
         refine ⟨zeh (zeh key.1 OB (fun q hq h=>h)) O6 (fun q hq=>(key.2 q hq).2.2),fun q hq=>?_⟩
         have h5:=key.2 q hq
         refine ⟨h5.1,by omega,?_⟩
         rcases hv6 with e | e
         ·rw [e]; exact h5.2.2
         ·rw [e]; intro e2; injection e2 with e2; omega
        have HR6:=hdq hr6
        have H6:=hdq (And.intro r1 (And.intro r2 (And.intro r3 (And.intro p6 (And.intro hb8 (And.intro hall (And.intro ho6 hE4)))))))
        have HOO:=hdq hoo
        have c16:w6.cell? ⟨g1,0,none⟩ = some (.slice po vals.length co):=r1.cell 0
        have z16:=r1.frozen 0
        have c14:w4.cell? ⟨g1,0,none⟩ = some (.slice po vals.length co):=m4.r1.cell 0
        have hszS:wS.heap.size≤w6.heap.size:=by have:=HZ.out; omega
        obtain ⟨pv6,cv6,rfl⟩:=zqg ho6
        clear he hmu hgf hok m4 m4' hr6 ho6 hb6 hk6 hv6 hsz6 OB O6 hwr4 hng hnn r1 r2 r3 p6 hb8 hall hE4 h3 p4 O4 hszC hoo
        unfold tk
        go_wp2_with (first
         | (at_builtin; refine zbn rfl (zao _ _ _ _ rfl rfl rfl HR6.out) ?_)
         | (refine zaq (N:=51) rfl rfl 47 (.tmp 7) rfl ho rfl R4 _ Tryz.underlying47 rfl (by kernel_rfl) ?_))
        have h6:=H6.out
        have SH:=zfd w6 g1 0 (.slice pv6 (vals.length + 1) cv6)
        have hnn:=HN.out
        have hsz7:(w6.setCell ⟨g1,0,none⟩ (.slice pv6 (vals.length + 1) cv6)).heap.size = w6.heap.size:=by simp [World.setCell]
        refine ⟨⟨vals ++ [(oo,.slice a1 n1 d1,.slice a2 n2 d2)],l2,.slice pv6 (vals.length + 1) cv6,⟨h6.1.set 0 _,h6.2.1.other ⟨g1,0,none⟩ (fun e=>hnn.1.1 e.symm) _,h6.2.2.1.other ⟨g1,0,none⟩ (fun e=>hnn.1.2.1 e.symm) _,?_,?_,?_,?_⟩,h6.2.2.2.1.only SH (by show ¬ g = g1; omega) (by show ¬ b = g1; omega),⟨h6.2.2.2.2.2.2.2.1,?_⟩,?_,?_,?_⟩,?_⟩
        ·rw [List.length_append]
         exact zlx h6.2.2.2.2.2.2.1 SH (fun k e=>by have:k = g1:=e; omega)
        ·intro x hx
         rw [hsz7]
         have hq:=h6.2.2.2.2.2.1 x hx
         exact ⟨zeh hq.1 SH (fun q hh e=>by have:q = g1:=e; have:=hq.2 q hh; omega),hq.2⟩
        ·intro q hq
         rw [hsz7]
         exact (zbc h6.2.2.2.2.2.2.1 hq).2
        ·exact h6.2.2.2.2.1.trans (SH.below h6.2.2.2.2.1.size (fun k hk e=>by have:k = g1:=e; omega))
        ·have:=h6.2.2.2.2.2.2.2.2
         have h9:=H3.out.2.2.2.2.2.2
         have:=HE.out.2
         rw [List.length_tail] at h9
         omega
        ·rw [List.length_append]
         have:=HZ.out
         have:=HN8.out
         simp
         omega
        ·rw [hsz7]
         omega
        ·rw [HREL.out,Sc.parseOf_more HK.out HN8.out HKK.out HRR.out HMU.out,List.map_append,List.length_append,List.length_singleton]
         have hf:=HF.out
         rw [show 101 - (vals.length + 1) = f by omega,← HPOS.out,← HOO.out]
         rfl
        ·have e1:(w6.setCell ⟨g1,0,none⟩ (.slice pv6 (vals.length + 1) cv6)).cell? ⟨g1,0,none⟩ = some (.slice pv6 (vals.length + 1) cv6):=(h6.1.set 0 (.slice pv6 (vals.length + 1) cv6)).cell 0
         rw [e1,c1]
         have:=HF.out
         show 101 - (vals.length + 1) < 101 - vals.length
         omega
end Go.Proofs.YtlpdfglbdijkoaaGreatDoor
namespace Go.Proofs.YtlpdfglbdijkoaaGreatDoor
open Go.RowKit
set_option linter.unusedVariables false
set_option linter.unusedSimpArgs false
def t14:List UInt8:=[114,101,110,117,109,98,101,114,32,49,32,116,111,32,50,59]
theorem parse14:Sc.parse Dy.parse t14 = .ok [⟨0,1,2,[],[],[],0,0⟩]:=by rfl
set_option maxHeartbeats 4000000 in
set_option maxRecDepth 100000 in
theorem awake14 (w:World) (hM:Glb13 w) :
  Calls Tryz.prog 27 #[] w fun e w'=>e = .returned (.bool true)∧Below w.heap.size w w':=by
 have HP:=hdq (znm ⟨#[114,101,110,117,109,98,101,114,32,49,32,116,111,32,50,59]⟩ t14 rfl w hM fun k hk hf=>by
  obtain ⟨o,ho,rfl⟩:=hf _ parse14
  rw [List.mem_singleton.1 ho]
  exact fun g b ho pos l W0 w hM hB hg0 ho0 h hE hlen R hgo hbo=>rest_0 g b ho pos l W0 w hM hB hg0 ho0 h hE R hgo hbo)
 go_enter Tryz.func27,Tryz.ntmps27
 go_wp2_with fail
 refine HP.out.mono ?_
 rintro e w1 ⟨hr,hb⟩
 rw [parse14] at hr
 obtain ⟨v,vals,rfl,how,hv,_⟩:∃ (v:Value) (vals:List (Sc.Op × Value × Value)),e = .returned (.tuple #[v,.int .i64 0,.int .i64 0])∧w1.ownsRow w.heap.size 47 8 v vals.length (vals.flatMap opE)∧vals.map (·.1) = [⟨0,1,2,[],[],[],0,0⟩]∧∀ x ∈ vals,okP w1 x:=hr
 obtain ⟨⟨o,v1,v2⟩,rfl⟩:∃ x,vals = [x]:=by
  rcases vals with _ | ⟨x,_ | ⟨y,r⟩⟩
  ·simp at hv
  ·exact ⟨x,rfl⟩
  ·simp at hv
 simp only [List.map_cons,List.map_nil,List.cons.injEq,and_true] at hv
 subst hv
 obtain ⟨_,p,cap,rfl,hE⟩:=zcw opE 8 opE0 (fun _=>rfl) (by omega) how
 obtain ⟨b,off,rfl,hc⟩:∃ b off,p = some ⟨b,off,none⟩∧w1.rangeAt b (off + 0 * 8) (opE (⟨0,1,2,[],[],[],0,0⟩,v1,v2)):=by
  rcases hE with h | ⟨b,off,e,h⟩
  ·cases h
  ·exact ⟨b,off,e,h 0 (by simp)⟩
 rw [Nat.zero_mul,Nat.add_zero] at hc
 have c1:w1.cell? ⟨b,off + 1,none⟩ = some (.int .u32 1):=hc 1 _ rfl
 have c2:w1.cell? ⟨b,off + 2,none⟩ = some (.int .u32 2):=hc 2 _ rfl
 have c7:w1.cell? ⟨b,off + 7,none⟩ = some (.int .i64 0):=hc 7 _ rfl
 have HA:=hdq (awake13 w1 (hM.below hb))
 have HB:=hdq hb
 clear how hE hc hb hM
 go_wp2_with fail
 refine HA.out.mono ?_
 rintro _ w2 ⟨rfl,hb2⟩
 go_wp2_with fail
 go_ret
 exact ⟨rfl,zab HB.out hb2⟩
open Go
theorem zib (rest : List (List Char)) : stripLifts liftWords ("cut".toList :: rest) = ([], "cut".toList :: rest) := by
 kernel_rfl
theorem zok {P : Program} {rest : List (List Char)} (h : behindMainWord (wordsSigns P.initOrder.toList) = "cut".toList :: rest) (hl : P.laysLater = false) (hr : P.bearsReflect = false) (hd : P.doorFits [] = true) : P.mayEnter = true ∧ P.liftsFinal = false ∧ P.make = some .cut := by
 refine ⟨?_,?_,?_⟩
 ·unfold Program.mayEnter
  rw [h]
  simp only [zib,hl,hr,hd]
  kernel_rfl
 ·unfold Program.liftsFinal Program.headLifts
  rw [h]
  simp only [zib]
  kernel_rfl
 ·unfold Program.make Program.headLifts
  rw [h]
  rfl
theorem rec_of {P:Program} {f:FuncId} (h:P.unfollowed f = true):P.recurses f = true:=by
 unfold Program.recurses
 rw [h]
 rfl
theorem zrl {P:Program} {f:FuncId} {fn:Func} {s:ChangeSpec} {c:OpenClaim}
  (p1:laidOutB P = true) (p2:mapsRowed P = true) (p3:(P.stops == []) = true) (p4:(P.stopKnobs == []) = true) (p5:P.stopsHeard = true) (p6:P.mayEnter = true∧P.liftsFinal = false∧P.make = some .cut) (p7:P.plainKeys = true)
  (h1:c.wf (OpenSpec.ofChange s) = true) (h2:fn.params.all (P.readableRec ·) = true) (h3:namedTie P c.named s.vars = true)
  (h4:(c.stops == [] && c.knobs == [] && c.plainKeys && c.shortTexts.isNone && !c.lifted && (some Make.cut == some c.make) && c.recurses) = true)
  (h5:(c.inPlace == P.inPlace f) = true) (h6:P.unfollowed f = true) (h7:c.unfollowed = true) (h8:(c.named == P.varsNamed f) = true)
  (h9:((c.maps == (fn.params.toList ++ s.plain.varTypes P).any (P.mapsRec ·)) && (c.ifaces == (fn.params.toList ++ s.plain.varTypes P).any (P.ifacesRec ·)) && (c.mapsOut == P.mapsAmong fn.resultTypes.toList)) = true)
  (h10:((c.loops == (fn.params.toList ++ s.plain.varTypes P).any (P.loopsFrom ·)) && (c.wideKeys == (fn.params.toList ++ s.plain.varTypes P ++ fn.resultTypes.toList).any (P.wideKeysFrom ·))) = true)
  (h11:s.vars.all (P.varReadable ·) = true) (h12:(fn.resultTypes.all (fun t=>P.readableRec t && decide (t < P.types.size)) && (c.ifacesOut == fn.resultTypes.toList.any (P.ifacesRec ·)) && (c.loopsOut == fn.resultTypes.toList.any (P.loopsFrom ·))) = true)
  (h13:(c.kinds == (if c.domain.isEmpty then [] else fn.params.toList.map fun t=>match P.underlying t with | some (.int k)=>some k | _=>none)) = true) (h14:(c.pinned == c.pinnedBy) = true)
  (h15:(c.veiled == (fn.params.toList ++ s.plain.varTypes P ++ fn.resultTypes.toList).any (P.veiledRec ·)) = true) (h16:c.veiledFits P fn.params.toList (fn.params.toList ++ s.plain.varTypes P ++ fn.resultTypes.toList) = true):joinedFacts P f fn s c = true:=by
 obtain ⟨q1,q2,q3⟩:=p6
 have h6':=rec_of h6
 simp only [Bool.and_eq_true,Bool.not_eq_true'] at h4 h9 h10 h12
 obtain ⟨⟨⟨⟨⟨⟨a1,a2⟩,a3⟩,a4⟩,a5⟩,a6⟩,a7⟩:=h4
 obtain ⟨⟨b1,b2⟩,b3⟩:=h9
 obtain ⟨b4,b5⟩:=h10
 obtain ⟨⟨b6,b7⟩,b8⟩:=h12
 unfold joinedFacts
 simp only [Bool.and_eq_true]
 exact ⟨⟨⟨⟨⟨⟨⟨⟨⟨⟨⟨⟨⟨⟨⟨⟨⟨⟨⟨⟨⟨⟨⟨⟨⟨⟨⟨⟨⟨⟨⟨h1,p1⟩,p2⟩,h2⟩,h3⟩,a1⟩,p3⟩,a2⟩,p4⟩,h5⟩,by rw [h6,h7]; rfl⟩,by rw [h6',a7]; rfl⟩,h8⟩,b1⟩,b2⟩,b3⟩,b4⟩,b5⟩,h11⟩,b6⟩,b7⟩,b8⟩,by rw [p7,a3]; rfl⟩,a4⟩,p5⟩,q1⟩,by rw [q2,a5]; rfl⟩,by rw [q3]; exact a6⟩,h13⟩,h14⟩,h15⟩,h16⟩
theorem noGo {P:Program} (h:P.funcs.any Func.goes = false) (f:FuncId):P.goes f = false:=by
 have h0:∀ g:Nat,(P.funcs[g]?).any Func.goes = false:=fun g=>by
  cases hg:P.funcs[g]? with
  | none=>rfl
  | some fn =>
   obtain ⟨hlt,he⟩:=Array.getElem?_eq_some_iff.1 hg
   have:=Array.any_eq_false.1 h g hlt
   rw [he] at this
   simpa using this
 unfold Program.goes
 rw [h,Bool.and_false,Bool.or_false,List.any_eq_false]
 intro g _
 rw [h0 g]
 simp
theorem goes_of {P:Program} {c:OpenClaim} (h:P.funcs.any Func.goes = false) (hs:c.start = .entering):false = c.goesBy P:=by
 unfold OpenClaim.goesBy Program.goesAt Program.goesFrom
 rw [hs]
 cases P.funcNamed c.func with
 | none=>rfl
 | some f=>simp [noGo h f]
theorem pNoGo:Tryz.prog.funcs.any Func.goes = false:=by kernel_rfl
theorem pLaid:laidOutB Tryz.prog = true:=by kernel_rfl
theorem pMaps:mapsRowed Tryz.prog = true:=by kernel_rfl
theorem pStops:(Tryz.prog.stops == []) = true:=by kernel_rfl
theorem pKnobs:(Tryz.prog.stopKnobs == []) = true:=by kernel_rfl
theorem pHeard:Tryz.prog.stopsHeard = true:=by kernel_rfl
theorem pKeys:Tryz.prog.plainKeys = true:=by kernel_rfl
theorem pLater:Tryz.prog.laysLater = false:=by kernel_rfl
theorem pRefl:Tryz.prog.bearsReflect = false:=by kernel_rfl
theorem pFits:Tryz.prog.doorFits [] = true:=by kernel_rfl
theorem pHead : (behindMainWord (wordsSigns Tryz.prog.initOrder.toList)).head? = some "cut".toList := by kernel_rfl
theorem pEnter:Tryz.prog.mayEnter = true∧Tryz.prog.liftsFinal = false∧Tryz.prog.make = some .cut:=by
 have h:=pHead
 cases hw:behindMainWord (wordsSigns Tryz.prog.initOrder.toList) with
 | nil=>rw [hw] at h; cases h
 | cons a r =>
  rw [hw] at h
  obtain rfl : a = "cut".toList := Option.some.inj h
  exact zok hw pLater pRefl pFits
end Go.Proofs.YtlpdfglbdijkoaaGreatDoor