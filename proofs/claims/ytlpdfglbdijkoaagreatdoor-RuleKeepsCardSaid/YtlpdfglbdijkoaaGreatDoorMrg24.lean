/-
  Own texts, several in one (Par1, Par2, Par3, Par4).
-/
import Derived.Test.YtlpdfglbdijkoaaGreatDoorMrg23
import Derived.Test.YtlpdfglbdijkoaaGreatDoorMrg16
import Derived.Test.YtlpdfglbdijkoaaGreatDoorMrg21
import Derived.Test.YtlpdfglbdijkoaaGreatDoorMrg22
namespace Go.Proofs.YtlpdfglbdijkoaaGreatDoor
open Go.RowKit
set_option linter.unusedVariables false
set_option linter.unusedSimpArgs false
theorem Stored.cell {W w1:World} {g:Nat} (h:Stored W g w1) (a:Addr) (hn:a.block ≠ g):w1.cell? a = W.cell? a:=World.cell?_of_block (w:=W) (h.other a.block hn)
theorem Only.stored {S:Nat→Prop} {a W w1:World} {g:Nat} (h:Only S a W) (k:Stored W g w1) (hg:S g∨a.heap.size≤g):Only S a w1 :=
 ⟨k.os.trans h.os,k.tape.trans h.tape,k.output.trans h.output,by rw [k.size]; exact h.size,fun i hi hs=>(k.other i (by
  rcases hg with hg | hg
  ·intro e; rw [e] at hs; exact hs hg
  ·omega)).trans (h.block i hi hs)⟩
def TksAt (w:World) (b off:Nat) (l:List Lx.Tk):Prop:=∀ i,i < l.length→w.rangeAt b (off + i * 5) (tk (l.getD i Lx.tk0))
def PsAt (w:World) (g b:Nat) (l:List Lx.Tk):Prop:=∃ off c,Row w g #[.slice (some ⟨b,off,none⟩) l.length c] 156∧TksAt w b off l∧l.length≤c∧c≤maxLen∧b ≠ g
theorem TksAt.only {w w':World} {b off:Nat} {l:List Lx.Tk} {S:Nat→Prop} (h:TksAt w b off l) (hb:Only S w w') (hs:¬ S b):TksAt w' b off l:=fun i hi j v hv=>hb.cell (h i hi j v hv) hs
theorem TksAt.tail {w:World} {b off:Nat} {l:List Lx.Tk} (h:TksAt w b off l):TksAt w b (off + 5) l.tail:=by
 rcases l with _ | ⟨t,l⟩
 ·intro i hi; cases hi
 ·intro i hi
  have:=h (i + 1) (by simpa using hi)
  rw [show off + (i + 1) * 5 = off + 5 + i * 5 by omega] at this
  exact this
theorem PsAt.only {w w':World} {g b:Nat} {l:List Lx.Tk} {S:Nat→Prop} (h:PsAt w g b l) (hb:Only S w w') (hg:¬ S g) (hs:¬ S b):PsAt w' g b l:=by
 obtain ⟨off,c,R,h1,h2,h3,h4⟩:=h
 exact ⟨off,c,hb.row R hg,h1.only hb hs,h2,h3,h4⟩
theorem PsAt.lt {w:World} {g b:Nat} {l:List Lx.Tk} (h:PsAt w g b l):g < w.heap.size:=by
 obtain ⟨off,c,R,_⟩:=h
 exact R.lt
theorem hd_getD (l:List Lx.Tk):l.getD 0 Lx.tk0 = Sc.hd l:=by
 rcases l with _ | ⟨t,l⟩ <;> rfl
theorem TksAt.hd {w:World} {b off:Nat} {l:List Lx.Tk} (h:TksAt w b off l) (hl:0 < l.length):w.cell? ⟨b,off,none⟩ = some (.int .i64 ((Sc.hd l).kind:Int))∧w.cell? ⟨b,off + 1,none⟩ = some (.string ⟨(Sc.hd l).text.toArray⟩)∧w.cell? ⟨b,off + 2,none⟩ = some (.int .i64 (Sc.hd l).num)∧w.cell? ⟨b,off + 3,none⟩ = some (.int .i32 (Sc.hd l).day)∧w.cell? ⟨b,off + 4,none⟩ = some (.int .i64 ((Sc.hd l).pos:Int)):=by
 have k:=h 0 hl
 rw [hd_getD,Nat.zero_mul,Nat.add_zero] at k
 exact ⟨k 0 _ rfl,k 1 _ rfl,k 2 _ rfl,k 3 _ rfl,k 4 _ rfl⟩
def stopE (p e:Nat):Ending:=.panicked [{ v:=.iface 152 (.agg #[.int .i64 (p:Int),.int .i64 (e:Int)]),recovered:=false }]
theorem zfh (er g b:Nat) (l:List Lx.Tk) (w:World) (h:PsAt w g b l) (hl:0 < l.length) :
  Calls Tryz.prog 78 #[.pointer (some ⟨g,0,none⟩),.int .i64 (er:Int)] w fun e w'=>e = stopE (Sc.hd l).pos er∧w' = w:=by
 obtain ⟨off,c,R,hT,hc,hm,hne⟩:=h
 have cg:w.cell? ⟨g,0,none⟩ = some (.slice (some ⟨b,off,none⟩) l.length c):=R.cell 0
 obtain ⟨c0,c1,c2,c3,c4⟩:=hT.hd hl
 have i1:(0:Int) < (l.length:Int):=by omega
 unfold stopE
 generalize (Sc.hd l).pos = p at *
 clear hT R c0 c1 c2 c3 hl hc hm
 go_enter Tryz.func78,Tryz.ntmps78
 go_wp2_with fail
 exact ⟨rfl,rfl,rfl⟩
theorem zub {k:Nat} {x:List UInt8} {l:List Lx.Tk} (h:Sc.isN k x l = true):x = []∨(¬ x = []∧(Sc.hd l).text = x):=by
 unfold Sc.isN at h
 simp only [Bool.and_eq_true,Bool.or_eq_true,decide_eq_true_eq] at h
 by_cases hx:x = []
 ·exact .inl hx
 ·exact .inr ⟨hx,h.2.resolve_left hx⟩
set_option maxHeartbeats 2000000 in
theorem zma (k:Nat) (x:List UInt8) (g b:Nat) (l:List Lx.Tk) (w:World) (h:PsAt w g b l) (hE:Sc.Ended l) (hk:k ≠ 0) (hN:Sc.isN k x l = true) :
  Calls Tryz.prog 110 #[.pointer (some ⟨g,0,none⟩),.int .i64 (k:Int),.string ⟨x.toArray⟩] w fun e w'=>e = .returned (.tuple #[.agg (tk (Sc.hd l)).toArray,.bool true])∧PsAt w' g b l.tail∧Only (· = g) w w':=by
 obtain ⟨off,c,R,hT,hc,hm,hne⟩:=h
 have cg:w.cell? ⟨g,0,none⟩ = some (.slice (some ⟨b,off,none⟩) l.length c):=R.cell 0
 have hl:=hE.ne
 obtain ⟨c0,c1,c2,c3,c4⟩:=hT.hd hl
 have i1:(0:Int) < (l.length:Int):=by omega
 have i2:(1:Int)≤(l.length:Int):=by omega
 have i3:(l.length:Int)≤(c:Int):=by omega
 have hl2:2≤l.length:=by
  have:=(hE.tail (show (Sc.hd l).kind ≠ 0 by have:=Sc.isN_kind hN; omega)).ne
  rw [List.length_tail] at this
  omega
 have i4:(1:Int) < (c:Int):=by omega
 have i5:¬ c = 1:=by omega
 have i6:¬ c - 1 = 0:=by omega
 have hkk:(Sc.hd l).kind = k:=Sc.isN_kind hN
 have hxx:=zub hN
 have HT:=hdq hT
 have HR:=hdq R
 have HB:=hdq (And.intro hE (And.intro hc (And.intro hm hne)))
 subst hkk
 generalize (Sc.hd l) = t at *
 clear hT R hc hm hne hE hN hk hl2
 rcases hxx with rfl | ⟨hx,rfl⟩
 all_goals
  go_enter Tryz.func110,Tryz.ntmps110
  go_wp2_with (first
   | (refine zal (N:=6) rfl rfl 159 rfl _ zaw ?_; intro g1 w1 hg1 R1 B1; have cg1:=zae cg B1; have d0:=zae c0 B1; have d1:=zae c1 B1; have d2:=zae c2 B1; have d3:=zae c3 B1; have d4:=zae c4 B1)
   | (refine zal (N:=8) rfl rfl 159 rfl _ zaw ?_; intro g2 w2 hg2 R2 B2; have cg2:=zae cg1 B2)
   | (refine zad rfl 159 (.tmp 8) _ rfl g2 (tk t).toArray rfl rfl R2 (zav _) rfl (zbi _) rfl ?_; intro w3 R3 S3; have e0:w3.cell? ⟨g2,0,none⟩ = some (.int .i64 (t.kind:Int)):=R3.cell 0; have e1:w3.cell? ⟨g2,1,none⟩ = some (.string ⟨t.text.toArray⟩):=R3.cell 1; have hgg:g < w2.heap.size:=Nat.lt_of_lt_of_le HR.out.lt (Nat.le_trans B1.size B2.size); have cg3:w3.cell? ⟨g,0,none⟩ = some (.slice (some ⟨b,off,none⟩) l.length c):=(S3.cell _ (by have:=HR.out.lt; have:=B1.size; show g ≠ g2; omega)).trans cg2; have hn2g:g2 ≠ g:=(by have:=HR.out.lt; have:=B1.size; omega); have hn1g:g1 ≠ g:=(by have:=HR.out.lt; omega); have hn12:g1 ≠ g2:=(by have:=R1.lt; omega); have zg:w3.frozen? ⟨g,0,none⟩ = false:=(((HR.out.below B1).below B2).stored S3 hn2g.symm).frozen 0)
   | (refine zaq (N:=38) rfl rfl 159 (.tmp 8) rfl g2 rfl (R3.other _ hn2g _) _ Tryz.underlying159 rfl (zav t) ?_)
   | (refine zad rfl 159 (.tmp 6) _ rfl g1 (tk t).toArray rfl rfl (((R1.below B2).stored S3 hn12).other _ hn1g _) (zav _) rfl (zbi _) rfl ?_; intro w5 R5 S5; have f0:w5.cell? ⟨g1,0,none⟩ = some (.int .i64 (t.kind:Int)):=R5.cell 0; have f1:w5.cell? ⟨g1,1,none⟩ = some (.string ⟨t.text.toArray⟩):=R5.cell 1; have f2:w5.cell? ⟨g1,2,none⟩ = some (.int .i64 t.num):=R5.cell 2; have f3:w5.cell? ⟨g1,3,none⟩ = some (.int .i32 t.day):=R5.cell 3; have f4:w5.cell? ⟨g1,4,none⟩ = some (.int .i64 (t.pos:Int)):=R5.cell 4))
  have hb:=HB.out
  have O5:Only (· = g) w w5:=((((Only.of_below (S:=(· = g)) B1).then_below (B2.mono B1.size)).stored S3 (.inr (by have:=B1.size; omega))).setCell (.inl rfl) _).stored S5 (.inr hg1)
  have RG:=((((HR.out.below B1).below B2).stored S3 hn2g.symm).set 0 (.slice (some ⟨b,off + 5,none⟩) (l.length - 1) (c - 1))).stored S5 hn1g.symm
  exact bodyPost_ret (v:=.tuple #[.agg (tk t).toArray,.bool true]) (by simp [results,Tryz.results110,go_sem,f0,f1,f2,f3,f4,tk]) rfl ⟨rfl,⟨off + 5,c - 1,by rw [List.length_tail]; exact RG,HT.out.tail.only O5 hb.2.2.2,by rw [List.length_tail]; omega,by omega,hb.2.2.2⟩,O5⟩
theorem isN_not {k:Nat} {x:List UInt8} {l:List Lx.Tk} (h:Sc.isN k x l = false):¬ (Sc.hd l).kind = k∨((Sc.hd l).kind = k∧¬ x = []∧¬ (Sc.hd l).text = x):=by
 by_cases hk:(Sc.hd l).kind = k
 ·refine .inr ⟨hk,fun e=>?_,fun e=>?_⟩
  ·simp [Sc.isN,hk,e] at h
  ·simp [Sc.isN,hk,e] at h
 ·exact .inl hk
set_option maxHeartbeats 2000000 in
theorem zqo (k:Nat) (x:List UInt8) (g b:Nat) (l:List Lx.Tk) (w:World) (h:PsAt w g b l) (hE:Sc.Ended l) (hN:Sc.isN k x l = false) :
  Calls Tryz.prog 110 #[.pointer (some ⟨g,0,none⟩),.int .i64 (k:Int),.string ⟨x.toArray⟩] w fun e w'=>e = .returned (.tuple #[.agg (tk Lx.tk0).toArray,.bool false])∧PsAt w' g b l∧Only (· = g) w w':=by
 have HP:=hdq h
 obtain ⟨off,c,R,hT,hc,hm,hne⟩:=h
 have cg:w.cell? ⟨g,0,none⟩ = some (.slice (some ⟨b,off,none⟩) l.length c):=R.cell 0
 have hl:=hE.ne
 obtain ⟨c0,c1,c2,c3,c4⟩:=hT.hd hl
 have i1:(0:Int) < (l.length:Int):=by omega
 have hxx:=isN_not hN
 have HR:=hdq (And.intro R hne)
 generalize (Sc.hd l) = t at *
 clear hT R hc hm hne hE hN hl
 have hxx:¬ (t.kind:Int) = (k:Int)∨(t.kind = k∧x.isEmpty = false∧(t.text == x) = false):=by
  rcases hxx with hx | ⟨h1,h2,h3⟩
  ·exact .inl (by omega)
  ·exact .inr ⟨h1,by rcases x with _ | ⟨a,x⟩; exact absurd rfl h2; rfl,by simpa using h3⟩
 rcases hxx with hx | ⟨rfl,hx,hy⟩
 all_goals
  go_enter Tryz.func110,Tryz.ntmps110
  go_wp2_with (first
   | (refine zal (N:=6) rfl rfl 159 rfl _ zaw ?_; intro g1 w1 hg1 R1 B1; have cg1:=zae cg B1; have d0:=zae c0 B1; have d1:=zae c1 B1; have d2:=zae c2 B1; have d3:=zae c3 B1; have d4:=zae c4 B1)
   | (refine zal (N:=8) rfl rfl 159 rfl _ zaw ?_; intro g2 w2 hg2 R2 B2; have cg2:=zae cg1 B2)
   | (refine zad rfl 159 (.tmp 8) _ rfl g2 (tk t).toArray rfl rfl R2 (zav _) rfl (zbi _) rfl ?_; intro w3 R3 S3; have e0:w3.cell? ⟨g2,0,none⟩ = some (.int .i64 (t.kind:Int)):=R3.cell 0; have e1:w3.cell? ⟨g2,1,none⟩ = some (.string ⟨t.text.toArray⟩):=R3.cell 1; have hn12:g1 ≠ g2:=(by have:=R1.lt; omega))
   | (refine zad rfl 159 (.tmp 6) _ rfl g1 (tk Lx.tk0).toArray rfl rfl ((R1.below B2).stored S3 hn12) (zav _) rfl (zbi _) rfl ?_; intro w5 R5 S5; have f0:w5.cell? ⟨g1,0,none⟩ = some (.int .i64 0):=R5.cell 0; have f1:w5.cell? ⟨g1,1,none⟩ = some (.string ⟨#[]⟩):=R5.cell 1; have f2:w5.cell? ⟨g1,2,none⟩ = some (.int .i64 0):=R5.cell 2; have f3:w5.cell? ⟨g1,3,none⟩ = some (.int .i32 0):=R5.cell 3; have f4:w5.cell? ⟨g1,4,none⟩ = some (.int .i64 0):=R5.cell 4))
  have hgl:=HR.out.1.lt
  have O5:Only (fun _=>False) w w5:=(((Only.of_below (S:=fun _=>False) B1).then_below (B2.mono B1.size)).stored S3 (.inr (by have:=B1.size; omega))).stored S5 (.inr hg1)
  exact bodyPost_ret (v:=.tuple #[.agg (tk Lx.tk0).toArray,.bool false]) (by simp [results,Tryz.results110,go_sem,f0,f1,f2,f3,f4,tk,Lx.tk0]) rfl ⟨rfl,HP.out.only O5 (fun h=>h) (fun h=>h),O5.mono fun k h=>h.elim⟩
def psR {A:Type} (g b:Nat) (f:A→Ending) (r:Except (Nat × Nat) (A × List Lx.Tk)) (e:Ending) (w':World):Prop :=
 match r with
 | .ok (t,l)=>e = f t∧PsAt w' g b l
 | .error (p,c)=>e = stopE p c
set_option maxHeartbeats 2000000 in
theorem zhf (k:Nat) (x:List UInt8) (g b:Nat) (l:List Lx.Tk) (w:World) (h:PsAt w g b l) (hE:Sc.Ended l) (hk:k ≠ 0) :
  Calls Tryz.prog 81 #[.pointer (some ⟨g,0,none⟩),.int .i64 (k:Int),.string ⟨x.toArray⟩] w fun e w'=>psR g b (fun t=>.returned (.agg (tk t).toArray)) (Sc.must k x l) e w'∧Only (· = g) w w':=by
 have HP:=hdq h
 have HE:=hdq hE
 have HK:=hdq hk
 have hgl:=h.lt
 cases hN:Sc.isN k x l
 ·have hm:Sc.must k x l = .error ((Sc.hd l).pos,1):=by unfold Sc.must; rw [if_neg (by simp [hN])]; rfl
  rw [hm]
  have HN:=hdq hN
  clear hN h hE hk hm
  go_enter Tryz.func81,Tryz.ntmps81
  go_wp2_with (first | (refine zal (N:=6) rfl rfl 159 rfl _ zaw ?_; intro g1 w1 hg1 R1 B1))
  have hp1:=HP.out.only (Only.of_below (S:=fun _=>False) B1) (fun h=>h) (fun h=>h)
  refine (zqo k x g b l w1 hp1 HE.out HN.out).mono ?_
  rintro _ w2 ⟨rfl,hp2,O2⟩
  have HP2:=hdq hp2
  clear hp1 hp2
  unfold tk Lx.tk0
  go_wp2_with (first
   | (refine zal (N:=7) rfl rfl 159 rfl _ zaw ?_; intro g2 w3 hg2 R3 B3)
   | (refine zad rfl 159 (.tmp 7) _ rfl g2 (tk Lx.tk0).toArray rfl rfl R3 (zav _) rfl (zbi _) rfl ?_; intro w4 R4 S4))
  have hb:=Only.stored (Only.of_below (S:=fun _=>False) B3) S4 (.inr hg2)
  refine (zfh 1 g b l w4 (HP2.out.only hb (fun h=>h) (fun h=>h)) HE.out.ne).mono ?_
  rintro _ _ ⟨rfl,rfl⟩
  unfold stopE
  go_wp2_with fail
  exact ⟨rfl,rfl,((Only.of_below B1).trans O2).trans (hb.mono fun k h=>h.elim)⟩
 ·have hm:Sc.must k x l = .ok (Sc.hd l,l.tail):=by unfold Sc.must; rw [if_pos hN]
  rw [hm]
  obtain ⟨t,ht⟩:∃ t,t = Sc.hd l:=⟨_,rfl⟩
  rw [← ht]
  have HTT:=hdq ht
  have HN:=hdq hN
  clear hN h hE hk hm ht
  go_enter Tryz.func81,Tryz.ntmps81
  go_wp2_with (first | (refine zal (N:=6) rfl rfl 159 rfl _ zaw ?_; intro g1 w1 hg1 R1 B1))
  have hp1:=HP.out.only (Only.of_below (S:=fun _=>False) B1) (fun h=>h) (fun h=>h)
  refine (zma k x g b l w1 hp1 HE.out HK.out HN.out).mono ?_
  rintro _ w2 ⟨rfl,hp2,O2⟩
  have HP2:=hdq hp2
  have R2:=O2.row R1 (show ¬ g1 = g by omega)
  have hg1l:=R2.lt
  rw [← HTT.out]
  clear hp1 hp2
  unfold tk
  go_wp2_with (first
   | (refine zal (N:=7) rfl rfl 159 rfl _ zaw ?_; intro g2 w3 hg2 R3 B3)
   | (refine zad rfl 159 (.tmp 7) _ rfl g2 (tk t).toArray rfl rfl R3 (zav _) rfl (zbi _) rfl ?_; intro w4 R4 S4)
   | (refine zaq (N:=20) rfl rfl 159 (.tmp 7) rfl g2 rfl R4 _ Tryz.underlying159 rfl (zav t) ?_)
   | (refine zad rfl 159 (.tmp 6) _ rfl g1 (tk t).toArray rfl rfl ((R2.below B3).stored S4 (by omega)) (zav _) rfl (zbi _) rfl ?_; intro w5 R5 S5; have f0:w5.cell? ⟨g1,0,none⟩ = some (.int .i64 (t.kind:Int)):=R5.cell 0; have f1:w5.cell? ⟨g1,1,none⟩ = some (.string ⟨t.text.toArray⟩):=R5.cell 1; have f2:w5.cell? ⟨g1,2,none⟩ = some (.int .i64 t.num):=R5.cell 2; have f3:w5.cell? ⟨g1,3,none⟩ = some (.int .i32 t.day):=R5.cell 3; have f4:w5.cell? ⟨g1,4,none⟩ = some (.int .i64 (t.pos:Int)):=R5.cell 4))
  have hb:=Only.stored (Only.stored (Only.of_below (S:=(· = g1)) B3) S4 (.inr hg2)) S5 (.inl rfl)
  have hbl:=HP2.out
  have hbg:b ≠ g1:=fun e=>by
   obtain ⟨off,c,_,hT,_⟩:=HP.out
   have:=block_lt_of_cell (hT.hd HE.out.ne).1
   have:b < w.heap.size:=this
   omega
  exact bodyPost_ret (v:=.agg (tk t).toArray) (by simp [results,Tryz.results81,go_sem,f0,f1,f2,f3,f4,tk]) rfl ⟨⟨rfl,hbl.only hb (show ¬ g = g1 by omega) hbg⟩,((Only.of_below (S:=(· = g)) B1).trans O2).trans_new (S':=(· = g1)) hb (fun k hk e=>by have:k = g1:=e; omega)⟩
theorem tk_num (t:Lx.Tk) (w:World):(Instr.field 159 (.agg #[.int .i64 (t.kind:Int),.string ⟨t.text.toArray⟩,.int .i64 t.num,.int .i32 t.day,.int .i64 (t.pos:Int)]) 2).run Tryz.prog w = .ok (.int .i64 t.num) w:=by kernel_rfl
set_option maxHeartbeats 2000000 in
set_option maxRecDepth 100000 in
theorem zlt (lo hi:Int) (g b:Nat) (l:List Lx.Tk) (w:World) (h:PsAt w g b l) (hE:Sc.Ended l) :
  Calls Tryz.prog 114 #[.pointer (some ⟨g,0,none⟩),.int .i64 lo,.int .i64 hi] w fun e w'=>psR g b (fun n=>.returned (.int .i64 n)) (Sc.num lo hi l) e w'∧Only (· = g) w w':=by
 have HP:=hdq h
 have HE:=hdq hE
 have hgl:=h.lt
 obtain ⟨off,c,R,hT,hc,hm,hne⟩:=h
 have cg:w.cell? ⟨g,0,none⟩ = some (.slice (some ⟨b,off,none⟩) l.length c):=R.cell 0
 have hl:=hE.ne
 obtain ⟨c0,c1,c2,c3,c4⟩:=hT.hd hl
 have i1:(0:Int) < (l.length:Int):=by omega
 clear hT R hc hm hne hE hl
 by_cases hbad:(Sc.hd l).kind = 2∧((Sc.hd l).num < lo∨hi < (Sc.hd l).num)
 ·have hn:Sc.num lo hi l = .error ((Sc.hd l).pos,5):=by unfold Sc.num; rw [if_pos hbad]; rfl
  rw [hn]
  clear hn
  obtain ⟨t,ht⟩:∃ t,t = Sc.hd l:=⟨_,rfl⟩
  rw [← ht] at hbad c0 c1 c2 c3 c4 ⊢
  have HTT:=hdq ht
  obtain ⟨hk,hr⟩:=hbad
  have HK:=hdq (show (t.kind:Int) = 2 by omega)
  clear ht hk
  have hr:t.num < lo∨(¬ t.num < lo∧hi < t.num):=by omega
  rcases hr with hr | ⟨hr,hr2⟩
  all_goals
   go_enter Tryz.func114,Tryz.ntmps114
   go_wp2_with (first
    | (refine zal (N:=7) rfl rfl 159 rfl _ zaw ?_; intro g2 w3 hg2 R3 B3)
    | (refine zad rfl 159 (.tmp 7) _ rfl g2 (tk t).toArray rfl rfl R3 (zav _) rfl (zbi _) rfl ?_; intro w4 R4 S4; have e0:w4.cell? ⟨g2,0,none⟩ = some (.int .i64 (t.kind:Int)):=R4.cell 0; have e2:w4.cell? ⟨g2,2,none⟩ = some (.int .i64 t.num):=R4.cell 2; have hk:=HK.out))
   have hb:=Only.stored (Only.of_below (S:=fun _=>False) B3) S4 (.inr hg2)
   refine (zfh 5 g b l w4 (HP.out.only hb (fun h=>h) (fun h=>h)) HE.out.ne).mono ?_
   rintro _ _ ⟨rfl,rfl⟩
   rw [← HTT.out]
   unfold stopE
   go_wp2_with fail
   exact ⟨rfl,rfl,hb.mono fun k h=>h.elim⟩
 ·have hn:Sc.num lo hi l = match Sc.must 2 [] l with
    | .error e=>.error e
    | .ok (t,r)=>.ok (t.num,r):=by unfold Sc.num; rw [if_neg hbad]; rcases Sc.must 2 [] l with e | ⟨t,r⟩ <;> rfl
  obtain ⟨res,hres⟩:∃ r,r = Sc.num lo hi l:=⟨_,rfl⟩
  rw [← hres]
  have HRES:=hdq (hres.trans hn)
  clear hn hres
  have hkk:¬ ((Sc.hd l).kind:Int) = 2∨(((Sc.hd l).kind:Int) = 2∧¬ (Sc.hd l).num < lo∧¬ hi < (Sc.hd l).num):=by omega
  generalize Sc.hd l = t at *
  clear hbad
  have HM:=hdq (fun w' hp=>zhf 2 [] g b l w' hp HE.out (by omega))
  rcases hkk with hk | ⟨hk,hr,hr2⟩
  all_goals
   have HK:=hdq hk
   clear hk
   go_enter Tryz.func114,Tryz.ntmps114
   go_wp2_with (first
    | (refine zal (N:=7) rfl rfl 159 rfl _ zaw ?_; intro g2 w3 hg2 R3 B3)
    | (refine zad rfl 159 (.tmp 7) _ rfl g2 (tk t).toArray rfl rfl R3 (zav _) rfl (zbi _) rfl ?_; intro w4 R4 S4; have e0:w4.cell? ⟨g2,0,none⟩ = some (.int .i64 (t.kind:Int)):=R4.cell 0; have e2:w4.cell? ⟨g2,2,none⟩ = some (.int .i64 t.num):=R4.cell 2; have hk:=HK.out))
   have hb:=Only.stored (Only.of_below (S:=fun _=>False) B3) S4 (.inr hg2)
   refine (HM.out w4 (HP.out.only hb (fun h=>h) (fun h=>h))).mono ?_
   rintro e w5 ⟨hr,O5⟩
   have O:=(hb.mono (S':=(· = g)) fun k h=>h.elim).trans O5
   rcases hmm:Sc.must 2 [] l with ⟨p,c⟩ | ⟨t,r⟩
   ·rw [hmm] at hr
    have he:e = stopE p c:=hr
    rw [he]
    unfold stopE
    go_wp2_with fail
    exact ⟨rfl,by rw [HRES.out,hmm]; rfl,O⟩
   ·rw [hmm] at hr
    obtain ⟨he,hp⟩:e = .returned (.agg (tk t).toArray)∧PsAt w5 g b r:=hr
    rw [he]
    unfold tk
    have hf:=tk_num t
    go_wp2_with fail
    go_ret
    exact ⟨by rw [HRES.out,hmm]; exact ⟨rfl,hp⟩,O⟩
theorem zmn {W0 w w':World} {S:Nat→Prop} (hM:Glb13 W0) (hB:Below W0.heap.size W0 w) (O:Only S w w') (hs:∀ k,S k→W0.heap.size≤k):Glb13 w' :=
 hM.below (hB.trans (O.below hB.size fun k hk e=>by have:=hs k e; omega))
def kindR (g b:Nat) (l:List Lx.Tk) (r:Option Nat) (e:Ending) (w':World):Prop :=
 match r with
 | some k=>e = .returned (.int .i64 (k:Int))∧PsAt w' g b l.tail
 | none=>e = stopE (Sc.hd l).pos 17
set_option maxHeartbeats 2000000 in
set_option maxRecDepth 100000 in
theorem zqb (g b:Nat) (l:List Lx.Tk) (W0 w:World) (hM:Glb13 W0) (hB:Below W0.heap.size W0 w) (hg0:W0.heap.size≤g) (h:PsAt w g b l) (hE:Sc.Ended l) :
  Calls Tryz.prog 79 #[.pointer (some ⟨g,0,none⟩)] w fun e w'=>kindR g b l (Sc.kindOf l) e w'∧Only (· = g) w w':=by
 obtain ⟨res,hres⟩:∃ r,r = Sc.kindOf l:=⟨_,rfl⟩
 rw [← hres]
 have HRES:=hdq hres
 have HP:=hdq h
 have HE:=hdq hE
 have HM:Hid (∀ w',Only (· = g) w w'→Glb13 w'):=hdq fun w' O=>zmn hM hB O (fun k e=>by have:k = g:=e; omega)
 clear hres h hE hM hB
 go_enter Tryz.func79,Tryz.ntmps79
 go_wp2_with fail
 go_loopw [6] (fun kv wr=>∃ k:Nat,k≤8∧kv = .int .i64 (k:Int)∧(∀ j,j < k→Sc.isN 1 (Sc.word j) l = false)∧PsAt wr g b l∧Only (· = g) w wr) (fun kv _=>8 - (intOf kv).toNat)
 case atStart=>exact ⟨0,by omega,rfl,(fun j hj=>by omega),HP.out,Only.refl _ _⟩
 case round =>
  obtain ⟨k,hk,rfl,hno,hp,O⟩:=hrel
  have HNO:=hdq hno
  have HPR:=hdq hp
  have HO:=hdq O
  have HK:=hdq hk
  clear hno hp O hk
  by_cases hlt:k < 8
  ·have i1:(k:Int) < 8:=by omega
   have e9:IntKind.i64.wrap ((k:Int) + 1) = (k:Int) + 1:=by rw [IntKind.wrap_i64]; omega
   have HLT:=hdq hlt
   clear hlt
   go_wp2_with fail
   refine (zlh k HLT.out wr (HM.out wr HO.out)).mono ?_
   rintro _ wr ⟨rfl,rfl⟩
   go_wp2_with fail
   cases hN:Sc.isN 1 (Sc.word k) l
   ·have HN:=hdq hN
    clear hN
    refine (zqo 1 (Sc.word k) g b l wr HPR.out HE.out HN.out).mono ?_
    rintro _ w2 ⟨rfl,hp2,O2⟩
    have HP2:=hdq hp2
    have HO2:=hdq (HO.out.trans O2)
    clear hp2 O2
    unfold tk Lx.tk0
    go_wp2_with (first
     | (refine zal (N:=4) rfl rfl 159 rfl _ zaw ?_; intro g2 w3 hg2 R3 B3)
     | (refine zad rfl 159 (.tmp 4) _ rfl g2 (tk Lx.tk0).toArray rfl rfl R3 (zav _) rfl (zbi _) rfl ?_; intro w4 R4 S4))
    have hb:=Only.stored (Only.of_below (S:=fun _=>False) B3) S4 (.inr hg2)
    refine ⟨⟨k + 1,HLT.out,by simp,fun j hj=>?_,HP2.out.only hb (fun h=>h) (fun h=>h),HO2.out.trans (hb.mono fun k h=>h.elim)⟩,by have:=HLT.out; simp [intOf]; omega⟩
    by_cases hjk:j < k
    ·exact HNO.out j hjk
    ·obtain rfl:j = k:=by omega
     exact HN.out
   ·have HN:=hdq hN
    clear hN
    refine (zma 1 (Sc.word k) g b l wr HPR.out HE.out (by omega) HN.out).mono ?_
    rintro _ w2 ⟨rfl,hp2,O2⟩
    have HP2:=hdq hp2
    have HO2:=hdq (HO.out.trans O2)
    clear hp2 O2
    generalize Sc.hd l = t
    unfold tk
    go_wp2_with (first
     | (refine zal (N:=4) rfl rfl 159 rfl _ zaw ?_; intro g2 w3 hg2 R3 B3)
     | (refine zad rfl 159 (.tmp 4) _ rfl g2 (tk t).toArray rfl rfl R3 (zav _) rfl (zbi _) rfl ?_; intro w4 R4 S4))
    have hb:=Only.stored (Only.of_below (S:=fun _=>False) B3) S4 (.inr hg2)
    go_ret
    refine ⟨?_,HO2.out.trans (hb.mono fun k h=>h.elim)⟩
    rw [HRES.out,Sc.kindOf_some HLT.out HNO.out HN.out]
    exact ⟨rfl,HP2.out.only hb (fun h=>h) (fun h=>h)⟩
  ·have i1:¬ (k:Int) < 8:=by omega
   obtain rfl:k = 8:=by have:=HK.out; omega
   clear hlt
   go_wp2_with fail
   refine (zfh 17 g b l wr HPR.out HE.out.ne).mono ?_
   rintro _ _ ⟨rfl,rfl⟩
   unfold stopE
   go_wp2_with fail
   refine ⟨rfl,?_,HO.out⟩
   rw [HRES.out,Sc.kindOf_none HNO.out]
   rfl
def lenOf:Value→Nat
 | .slice _ n _=>n
 | _=>0
theorem PsAt.base {w w':World} {g b B:Nat} {l:List Lx.Tk} (h:PsAt w g b l) (hb:Below B w w') (hg:g < B) (hs:b < B):PsAt w' g b l :=
 h.only (Only.of_base hb) (by show ¬ B≤g; omega) (by show ¬ B≤b; omega)
theorem PsAt.bl {w:World} {g b:Nat} {l:List Lx.Tk} (h:PsAt w g b l) (hE:Sc.Ended l):b < w.heap.size:=by
 obtain ⟨off,c,_,hT,_⟩:=h
 exact block_lt_of_cell (hT.hd hE.ne).1
theorem zlx {w w':World} {S:Nat→Prop} {B n sz:Nat} {e:TypeId} {v:Value} {xs:List Value} (h:w.ownsRow B e sz v n xs) (hb:Only S w w') (hs:∀ k,S k→k < B):w'.ownsRow B e sz v n xs :=
 hb.own h fun g hg e2=>by
  have:=(zbc h hg).1
  have:=hs g e2
  omega
end Go.Proofs.YtlpdfglbdijkoaaGreatDoor