/-
  Own texts, several in one (Rule2, Rule3, Rule4, Rule5).
-/
import Derived.Test.YtlpdfglbdijkoaaGreatDoorOwnChkU
namespace Go.Proofs.YtlpdfglbdijkoaaGreatDoor
open Go.RowKit
set_option linter.unusedVariables false
set_option linter.unusedSimpArgs false
def mergeN (c:List Ac) (x:Ac) (t:Nat):Nat × List Ac :=
 if x.code = t then (16,[]) else if (getC c t).isSome = false then (8,[]) else if x.kind ≠ ((getC c t).getD ac0).kind then (9,[]) else if 0 < (kidsC c x.code).length then (12,[]) else (0,dropC c x.code)
set_option maxHeartbeats 4000000 in
set_option maxRecDepth 100000 in
theorem zra (p:Option Addr) (cap:Nat) (c:List Ac) (x:Ac) (t:Nat) (w:World) (hE:ElsAt ac 4 ac0 w p c) (hl:c.length≤90000) (hr:AcRise c) :
  Calls Tryz.prog 58 #[.slice p c.length cap,.agg #[.int .u32 (x.code:Int),.string x.name,.int .u8 (x.kind:Int),.int .u32 (x.par:Int)],.int .u32 (t:Int)] w fun e w'=>∃ v,e = .returned (.tuple #[v,.int .i64 ((mergeN c x t).1:Int)])∧CsAt w' v (mergeN c x t).2∧Below w.heap.size w w':=by
 have B0:=zaa (Below.refl _ w) (.cells (ac x).toArray 61)
 have R0:=Row.new w (ac x).toArray 61
 have GET:=hdq fun W (hb:Below w.heap.size w W)=>zde p cap c t W (hE.below hb) (by omega) hr
 have WO:=hdq fun W (hb:Below w.heap.size w W)=>zdv p cap c x.code W (hE.below hb) (by omega)
 have KI:=hdq fun W (hb:Below w.heap.size w W)=>zjc p cap c x.code W (hE.below hb) (by omega)
 obtain ⟨R,hR⟩:∃ R,R = mergeN c x t:=⟨_,rfl⟩
 have HR:=hdq hR
 rw [← hR]
 obtain ⟨g,hg⟩:∃ g,g = w.heap.size:=⟨_,rfl⟩
 rw [← hg] at R0
 change Row (w.alloc (.cells #[.int .u32 (x.code:Int),.string x.name,.int .u8 (x.kind:Int),.int .u32 (x.par:Int)] 61)) g #[.int .u32 (x.code:Int),.string x.name,.int .u8 (x.kind:Int),.int .u32 (x.par:Int)] _ at R0
 change Below _ _ (w.alloc (.cells #[.int .u32 (x.code:Int),.string x.name,.int .u8 (x.kind:Int),.int .u32 (x.par:Int)] 61)) at B0
 clear hE hl hr hR
 go_enter Tryz.func58,Tryz.ntmps58
 go_wp2_with fail
 rw [← hg]
 clear hg
 generalize w.alloc (.cells #[.int .u32 (x.code:Int),.string x.name,.int .u8 (x.kind:Int),.int .u32 (x.par:Int)] 61) = w0 at *
 refine (GET.out w0 B0).mono ?_
 rintro _ w1 ⟨rfl,hb⟩
 have R1:=R0.below hb
 have B1:=zab B0 hb
 obtain ⟨q,hq⟩:∃ q,q = getC c t:=⟨_,rfl⟩
 rw [← hq]
 have HQ:=hdq hq
 clear hb R0 B0 GET hq
 obtain ⟨y,hy⟩:∃ y,y = q.getD ac0:=⟨_,rfl⟩
 rw [← hy]
 have HYY:=hdq hy
 have R2:=R1.alloc (.cells (ac y).toArray 61)
 have RY:=Row.new w1 (ac y).toArray 61
 have B2:=zaa B1 (.cells (ac y).toArray 61)
 change Row (w1.alloc (.cells #[.int .u32 (y.code:Int),.string y.name,.int .u8 (y.kind:Int),.int .u32 (y.par:Int)] 61)) g _ _ at R2
 change Below _ _ (w1.alloc (.cells #[.int .u32 (y.code:Int),.string y.name,.int .u8 (y.kind:Int),.int .u32 (y.par:Int)] 61)) at B2
 have c0:(w1.alloc (.cells #[.int .u32 (y.code:Int),.string y.name,.int .u8 (y.kind:Int),.int .u32 (y.par:Int)] 61)).cell? ⟨g,0,none⟩ = some (.int .u32 (x.code:Int)):=R2.cell 0
 have c2:(w1.alloc (.cells #[.int .u32 (y.code:Int),.string y.name,.int .u8 (y.kind:Int),.int .u32 (y.par:Int)] 61)).cell? ⟨g,2,none⟩ = some (.int .u8 (x.kind:Int)):=R2.cell 2
 have HR2:=hdq R2
 have HB2:=hdq B2
 clear hy R1 B1 R2 B2 RY
 simp only [ac]
 by_cases a1:x.code = t
 ·have z1:((x.code:Int) == (t:Int)) = true:=by simp [a1]
  have hv:R = (16,[]):=by rw [HR.out]; unfold mergeN; rw [if_pos a1]
  subst hv
  clear a1
  go_wp2_with fail
  exact bodyPost_ret (v:=.tuple #[.slice none 0 0,.int .i64 16]) (by simp [results,Tryz.results58,go_sem]) rfl ⟨.slice none 0 0,rfl,CsAt.nil _,HB2.out⟩
 have z1:((x.code:Int) == (t:Int)) = false:=beq_eq_false_iff_ne.2 (by omega)
 have A1:=hdq a1
 clear a1
 by_cases a2:q.isSome = false
 ·have hv:R = (8,[]):=by rw [HR.out]; unfold mergeN; rw [if_neg A1.out,← HQ.out,if_pos a2]
  subst hv
  rw [a2]
  clear a2
  go_wp2_with fail
  exact bodyPost_ret (v:=.tuple #[.slice none 0 0,.int .i64 8]) (by simp [results,Tryz.results58,go_sem]) rfl ⟨.slice none 0 0,rfl,CsAt.nil _,HB2.out⟩
 have A2:=hdq a2
 have a2:q.isSome = true:=eq_true_of_ne_false a2
 rw [a2]
 clear a2
 by_cases a3:x.kind = y.kind
 case neg =>
  have hv:R = (9,[]):=by rw [HR.out]; unfold mergeN; rw [if_neg A1.out,← HQ.out,if_neg A2.out,← HYY.out,if_pos a3]
  have z3:((x.kind:Int) == (y.kind:Int)) = false:=beq_eq_false_iff_ne.2 (by omega)
  subst hv
  clear a3
  go_wp2_with fail
  exact bodyPost_ret (v:=.tuple #[.slice none 0 0,.int .i64 9]) (by simp [results,Tryz.results58,go_sem]) rfl ⟨.slice none 0 0,rfl,CsAt.nil _,HB2.out⟩
 have z3:((x.kind:Int) == (y.kind:Int)) = true:=by simp [a3]
 have A3:=hdq (show ¬ x.kind ≠ y.kind from fun h=>h a3)
 clear a3
 go_wp2_with fail
 refine (KI.out _ HB2.out).mono ?_
 rintro _ w3 ⟨v,rfl,hown,hb⟩
 obtain ⟨sp,sc,rfl⟩:=zaj hown
 have d0:w3.cell? ⟨g,0,none⟩ = some (.int .u32 (x.code:Int)):=(HR2.out.below hb).cell 0
 have HB3:=hdq (zab HB2.out hb)
 obtain ⟨n,hn⟩:∃ n,n = (kidsC c x.code).length:=⟨_,rfl⟩
 rw [← hn]
 have HN:=hdq hn
 clear hown hb hn c0 c2
 by_cases a4:0 < n
 ·have hv:R = (12,[]):=by rw [HR.out]; unfold mergeN; rw [if_neg A1.out,← HQ.out,if_neg A2.out,← HYY.out,if_neg A3.out,← HN.out,if_pos a4]
  have z4:(0:Int) < (n:Int):=by omega
  subst hv
  go_wp2_with fail
  exact bodyPost_ret (v:=.tuple #[.slice none 0 0,.int .i64 12]) (by simp [results,Tryz.results58,go_sem]) rfl ⟨.slice none 0 0,rfl,CsAt.nil _,HB3.out⟩
 have hv:R = (0,dropC c x.code):=by rw [HR.out]; unfold mergeN; rw [if_neg A1.out,← HQ.out,if_neg A2.out,← HYY.out,if_neg A3.out,← HN.out,if_neg a4]
 have z4:¬ (0:Int) < (n:Int):=by omega
 subst hv
 have hn0:n = 0:=by omega
 subst hn0
 clear a4 z4
 go_wp2_with fail
 refine (WO.out w3 HB3.out).mono ?_
 rintro _ w4 ⟨v4,rfl,hown,hb⟩
 have HB4:=hdq (zab HB3.out hb)
 have HC:=hdq (CsAt.of_own hown)
 clear hown hb
 go_wp2_with fail
 exact bodyPost_ret (v:=.tuple #[v4,.int .i64 0]) (by simp [results,Tryz.results58,go_sem]) rfl ⟨v4,rfl,HC.out,HB4.out⟩
def ptI (p:Nat × Int):List Value:=[.int .u32 (p.1:Int),.int .i64 p.2]
def PisAt (w:World) (v:Value) (l:List (Nat × Int)):Prop:=∃ p cap,v = .slice p l.length cap∧ElsAt ptI 2 (0,0) w p l
theorem PisAt.below {w w':World} {v:Value} {l:List (Nat × Int)} (h:PisAt w v l) (hb:Below w.heap.size w w'):PisAt w' v l:=by
 obtain ⟨p,cap,e,h⟩:=h
 exact ⟨p,cap,e,h.below hb⟩
def ElsOff (g:Nat) (a:Option Addr) (l:List Ac):Prop:=l = []∨∀ b off,a = some ⟨b,off,none⟩→b ≠ g
theorem zog {w w':World} {g:Nat} {a:Option Addr} {l:List Ac} (h:ElsAt ac 4 ac0 w a l) (ho:ElsOff g a l) (hs:Stored w g w'):ElsAt ac 4 ac0 w' a l:=by
 rcases h with h | ⟨b,off,h1,h2⟩
 ·exact .inl h
 ·rcases ho with ho | ho
  ·exact .inl ho
  ·refine .inr ⟨b,off,h1,fun i hi j v hj=>?_⟩
   have hc:=h2 i hi j v hj
   have hh:w'.heap[b]? = w.heap[b]?:=hs.other b (ho b off h1)
   unfold World.cell? at hc ⊢
   rw [hh]
   exact hc
theorem zkv {w:World} {a:Option Addr} {l:List Ac} {g:Nat} (h:ElsAt ac 4 ac0 w a l) (hg:w.heap.size≤g):ElsOff g a l:=by
 rcases h with h | ⟨b,off,h1,h2⟩
 ·exact .inl h
 ·by_cases hl:l.length = 0
  ·exact .inl (List.length_eq_zero_iff.1 hl)
  ·refine .inr fun b' off' e=>?_
   rw [h1] at e
   injection e with e
   injection e with e1 e2
   subst e1
   have hc:=h2 0 (by omega) 0 _ rfl
   obtain ⟨c,e,fr,hb,_⟩:=Sort.cells_of_cell? hc
   have:=(Array.getElem?_eq_some_iff.1 hb).1
   omega
theorem zku {w:World} {B n g:Nat} {e:TypeId} {p:Option Addr} {cap:Nat} {l:List Ac} (h:w.ownsRow B e 4 (.slice p n cap) n (l.flatMap ac)) (hg:g < B):ElsOff g p l:=by
 rcases h.2 with ⟨h1,h2⟩ | ⟨g',cap',cur,h1,h2,_⟩
 ·have h3:=h.1
  rw [zbd] at h3
  exact .inl (List.length_eq_zero_iff.1 (by omega))
 ·injection h1 with h1 _ _
  refine .inr fun b off e=>?_
  rw [h1] at e
  injection e with e
  injection e with e1 _
  omega
def partOk (p:Nat × Int):Bool:=codeOk p.1 && decide (1≤p.2∧p.2≤1000000)
def splitG (x:Ac):List Ac→List (Nat × Int)→Nat × List Ac
 | out,[]=>(0,dropC out x.code)
 | out,q :: r=>if partOk q = false then (5,[]) else if (getC out q.1).isSome then (7,[]) else splitG x (putC out { x with code:=q.1 }) r
def splitN (c:List Ac) (x:Ac) (ps:List (Nat × Int)):Nat × List Ac:=if 0 < (kidsC c x.code).length then (12,[]) else if ps.length < 1∨8 < ps.length then (2,[]) else splitG x c ps
theorem zkb (x:Ac) (out:List Ac) (ps:List (Nat × Int)) (k:Nat) (hk:k < ps.length):splitG x out (ps.drop k) = if partOk (ps.getD k (0,0)) = false then (5,[]) else if (getC out (ps.getD k (0,0)).1).isSome then (7,[]) else splitG x (putC out { x with code:=(ps.getD k (0,0)).1 }) (ps.drop (k + 1)):=by
 have e:ps.drop k = ps.getD k (0,0) :: ps.drop (k + 1):=by
  rw [List.drop_eq_getElem_cons hk,List.getD_eq_getElem?_getD,List.getElem?_eq_getElem hk]; rfl
 rw [e]
 rfl
set_option maxHeartbeats 8000000 in
set_option maxRecDepth 100000 in
theorem znf (p:Option Addr) (cap:Nat) (c:List Ac) (x:Ac) (pp:Option Addr) (pcap:Nat) (ps:List (Nat × Int)) (w:World) (hE:ElsAt ac 4 ac0 w p c) (hP:ElsAt ptI 2 (0,0) w pp ps) (hl:c.length≤80000) (hr:AcRise c) :
  Calls Tryz.prog 59 #[.slice p c.length cap,.agg #[.int .u32 (x.code:Int),.string x.name,.int .u8 (x.kind:Int),.int .u32 (x.par:Int)],.slice pp ps.length pcap] w fun e w'=>∃ v,e = .returned (.tuple #[v,.int .i64 ((splitN c x ps).1:Int)])∧CsAt w' v (splitN c x ps).2∧Below w.heap.size w w':=by
 have B0:=zaa (Below.refl _ w) (.cells (ac x).toArray 61)
 have R0:=Row.new w (ac x).toArray 61
 have KI:=hdq fun W (hb:Below w.heap.size w W)=>zjc p cap c x.code W (hE.below hb) (by omega)
 have HP:=hdq hP
 have HE:=hdq hE
 have HL:=hdq hl
 have HRS:=hdq hr
 obtain ⟨R,hR⟩:∃ R,R = splitN c x ps:=⟨_,rfl⟩
 have HR:=hdq hR
 rw [← hR]
 obtain ⟨g,hg⟩:∃ g,g = w.heap.size:=⟨_,rfl⟩
 rw [← hg] at R0
 have HG:=hdq hg
 change Row (w.alloc (.cells #[.int .u32 (x.code:Int),.string x.name,.int .u8 (x.kind:Int),.int .u32 (x.par:Int)] 61)) g #[.int .u32 (x.code:Int),.string x.name,.int .u8 (x.kind:Int),.int .u32 (x.par:Int)] _ at R0
 change Below _ _ (w.alloc (.cells #[.int .u32 (x.code:Int),.string x.name,.int .u8 (x.kind:Int),.int .u32 (x.par:Int)] 61)) at B0
 clear hE hP hl hr hR
 go_enter Tryz.func59,Tryz.ntmps59
 go_wp2_with fail
 rw [← hg]
 clear hg
 generalize w.alloc (.cells #[.int .u32 (x.code:Int),.string x.name,.int .u8 (x.kind:Int),.int .u32 (x.par:Int)] 61) = w0 at *
 refine (KI.out w0 B0).mono ?_
 rintro _ w1 ⟨v,rfl,hown,hb⟩
 obtain ⟨sp,sc,rfl⟩:=zaj hown
 have HR1:=hdq (R0.below hb)
 have HB1:=hdq (zab B0 hb)
 have d0:w1.cell? ⟨g,0,none⟩ = some (.int .u32 (x.code:Int)):=HR1.out.cell 0
 obtain ⟨n,hn⟩:∃ n,n = (kidsC c x.code).length:=⟨_,rfl⟩
 rw [← hn]
 have HN:=hdq hn
 clear hown hb hn R0 B0
 by_cases a4:0 < n
 ·have hv:R = (12,[]):=by rw [HR.out]; unfold splitN; rw [← HN.out,if_pos a4]
  have z4:(0:Int) < (n:Int):=by omega
  subst hv
  go_wp2_with fail
  exact bodyPost_ret (v:=.tuple #[.slice none 0 0,.int .i64 12]) (by simp [results,Tryz.results59,go_sem]) rfl ⟨.slice none 0 0,rfl,CsAt.nil _,HB1.out⟩
 have A4:=hdq (show ¬ 0 < (kidsC c x.code).length by rw [← HN.out]; exact a4)
 obtain rfl:n = 0:=by omega
 clear a4
 by_cases a5:ps.length < 1
 ·have hv:R = (2,[]):=by rw [HR.out]; unfold splitN; rw [if_neg A4.out,if_pos (.inl a5)]
  have z5:(ps.length:Int) < 1:=by omega
  subst hv
  clear a5
  go_wp2_with fail
  exact bodyPost_ret (v:=.tuple #[.slice none 0 0,.int .i64 2]) (by simp [results,Tryz.results59,go_sem]) rfl ⟨.slice none 0 0,rfl,CsAt.nil _,HB1.out⟩
 have z5:¬ (ps.length:Int) < 1:=by omega
 by_cases a6:8 < ps.length
 ·have hv:R = (2,[]):=by rw [HR.out]; unfold splitN; rw [if_neg A4.out,if_pos (.inr a6)]
  have z6:(8:Int) < (ps.length:Int):=by omega
  subst hv
  clear a5 a6
  go_wp2_with fail
  exact bodyPost_ret (v:=.tuple #[.slice none 0 0,.int .i64 2]) (by simp [results,Tryz.results59,go_sem]) rfl ⟨.slice none 0 0,rfl,CsAt.nil _,HB1.out⟩
 have z6:¬ (8:Int) < (ps.length:Int):=by omega
 have HPL:=hdq (show ps.length≤8 by omega)
 have HRR:=hdq (show R = splitG x c ps by rw [HR.out]; unfold splitN; rw [if_neg A4.out,if_neg (by omega)])
 clear a5 a6 HR A4 HN KI
 go_wp2_with fail
 clear z5 z6 d0
 go_loopw [9,33] (fun ov iv wr=>∃ (k:Nat) (out:List Ac) (cd:Nat),k≤ps.length∧iv = .int .i64 (k:Int)∧(∃ po ko,ov = .slice po out.length ko∧ElsAt ac 4 ac0 wr po out∧ElsOff g po out)∧R = splitG x out (ps.drop k)∧AcRise out∧out.length≤80000 + k∧Row wr g #[.int .u32 (cd:Int),.string x.name,.int .u8 (x.kind:Int),.int .u32 (x.par:Int)] 61∧Below w.heap.size w wr) (fun _ iv _=>ps.length - (intOf iv).toNat)
 case atStart=>exact ⟨0,c,x.code,by omega,rfl,⟨p,cap,rfl,HE.out.below HB1.out,zkv HE.out (by rw [HG.out]; exact Nat.le_refl _)⟩,HRR.out,HRS.out,by have:=HL.out; omega,HR1.out,HB1.out⟩
 case round =>
  obtain ⟨k,out,cd,hk,rfl,⟨po,ko,rfl,hO,hof⟩,hS,hrs,hol,hrow,BB⟩:=hrel
  have HO:=hdq hO
  have HOF:=hdq hof
  have HS:=hdq hS
  have HRO:=hdq hrs
  have HOL:=hdq hol
  have HROW:=hdq hrow
  have HB:=hdq BB
  clear hO hof hS hrs hol hrow BB
  by_cases hlt:k < ps.length
  ·have i0:(0:Int)≤(k:Int):=by omega
   have i1:(k:Int) < (ps.length:Int):=by omega
   have HLT:=hdq hlt
   have e5:IntKind.i64.wrap ((k:Int) + 1) = (k:Int) + 1:=by rw [IntKind.wrap_i64]; have:=HPL.out; omega
   obtain ⟨b,off,rfl,hcc⟩:∃ b off,pp = some ⟨b,off,none⟩∧∀ i,i < ps.length→w.rangeAt b (off + i * 2) (ptI (ps.getD i (0,0))):=by
    rcases HP.out with h | h
    ·exact absurd hlt (by rw [h]; simp)
    ·exact h
   have ck:=zah (hcc k hlt) HB.out
   have hst:=zkb x out ps k hlt
   obtain ⟨q,hq⟩:∃ q,q = ps.getD k (0,0):=⟨_,rfl⟩
   rw [← hq] at ck hst
   obtain ⟨qc,qw⟩:=q
   have HST:=hdq (HS.out.trans hst)
   have c0:wr.cell? ⟨b,off + k * 2,none⟩ = some (.int .u32 (qc:Int)):=ck 0 _ rfl
   have c1:wr.cell? ⟨b,off + k * 2 + 1,none⟩ = some (.int .i64 qw):=ck 1 _ rfl
   have B2:=zaa HB.out (.cells #[.int .u32 (qc:Int),.int .i64 qw] 89)
   have R2:=Row.new wr #[.int .u32 (qc:Int),.int .i64 qw] 89
   have RG2:=HROW.out.alloc (.cells #[.int .u32 (qc:Int),.int .i64 qw] 89)
   have HO2:=hdq (HO.out.below (zaa (Below.refl _ wr) (.cells #[.int .u32 (qc:Int),.int .i64 qw] 89)))
   clear hcc ck hq hlt hk hst
   go_wp2_with fail
   obtain ⟨gq,hgq⟩:∃ g,g = wr.heap.size:=⟨_,rfl⟩
   rw [← hgq] at R2 ⊢
   have HGQ:=hdq hgq
   generalize wr.alloc (.cells #[.int .u32 (qc:Int),.int .i64 qw] 89) = w2 at *
   have f0:w2.cell? ⟨gq,0,none⟩ = some (.int .u32 (qc:Int)):=R2.cell 0
   have f1:w2.cell? ⟨gq,1,none⟩ = some (.int .i64 qw):=R2.cell 1
   have HR2:=hdq R2
   have HRG2:=hdq RG2
   have HB2:=hdq B2
   clear hgq c0 c1 i1 R2 RG2 B2
   refine (zmu qc w2).mono ?_
   rintro _ w2 ⟨rfl,rfl⟩
   by_cases q1:codeOk qc = false
   ·have hv:R = (5,[]):=by rw [HST.out,if_pos (by unfold partOk; rw [q1]; rfl)]
    subst hv
    rw [q1]
    clear q1
    go_wp2_with fail
    exact bodyPost_ret (v:=.tuple #[.slice none 0 0,.int .i64 5]) (by simp [results,Tryz.results59,go_sem]) rfl ⟨.slice none 0 0,rfl,CsAt.nil _,HB2.out⟩
   have q1:codeOk qc = true:=eq_true_of_ne_false q1
   have Q1:=hdq q1
   rw [q1]
   clear q1
   by_cases q2:qw < 1
   ·have hv:R = (5,[]):=by rw [HST.out,if_pos (by unfold partOk; rw [decide_eq_false (by omega),Bool.and_false])]
    subst hv
    go_wp2_with fail
    exact bodyPost_ret (v:=.tuple #[.slice none 0 0,.int .i64 5]) (by simp [results,Tryz.results59,go_sem]) rfl ⟨.slice none 0 0,rfl,CsAt.nil _,HB2.out⟩
   by_cases q3:1000000 < qw
   ·have hv:R = (5,[]):=by rw [HST.out,if_pos (by unfold partOk; rw [decide_eq_false (by omega),Bool.and_false])]
    subst hv
    go_wp2_with fail
    exact bodyPost_ret (v:=.tuple #[.slice none 0 0,.int .i64 5]) (by simp [results,Tryz.results59,go_sem]) rfl ⟨.slice none 0 0,rfl,CsAt.nil _,HB2.out⟩
   have HST2:=hdq (show R = if (getC out qc).isSome then (7,[]) else splitG x (putC out { x with code:=qc }) (ps.drop (k + 1)) by rw [HST.out,if_neg (by unfold partOk; rw [Q1.out,decide_eq_true (by omega)]; decide)])
   go_wp2_with fail
   clear q2 q3 HST
   refine (zde po ko out qc w2 HO2.out (by have:=HOL.out; have:=HPL.out; have:=HLT.out; omega) HRO.out).mono ?_
   rintro _ w3 ⟨rfl,hb⟩
   have R3:=HR2.out.below hb
   have RG3:=HRG2.out.below hb
   have HO3:=hdq (HO2.out.below hb)
   have B3:=zab HB2.out hb
   obtain ⟨q,hq⟩:∃ q,q = getC out qc:=⟨_,rfl⟩
   rw [← hq] at HST2 ⊢
   clear hb hq f0 f1
   cases q with
   | some y =>
    have hv:R = (7,[]):=HST2.out
    subst hv
    have HB4:=hdq (zaa B3 (.cells (ac y).toArray 61))
    clear R3 RG3 B3
    simp only [Option.isSome_some,Option.getD_some,ac]
    go_wp2_with fail
    exact bodyPost_ret (v:=.tuple #[.slice none 0 0,.int .i64 7]) (by simp [results,Tryz.results59,go_sem]) rfl ⟨.slice none 0 0,rfl,CsAt.nil _,HB4.out⟩
   | none =>
    have HST3:=hdq (show R = splitG x (putC out { x with code:=qc }) (ps.drop (k + 1)) from HST2.out)
    have R4:=R3.alloc (.cells #[.int .u32 0,.string ByteArray.empty,.int .u8 0,.int .u32 0] 61)
    have RG4:=RG3.alloc (.cells #[.int .u32 0,.string ByteArray.empty,.int .u8 0,.int .u32 0] 61)
    have B4:=zaa B3 (.cells #[.int .u32 0,.string ByteArray.empty,.int .u8 0,.int .u32 0] 61)
    have HO4:=HO3.out.below (zaa (Below.refl _ w3) (.cells #[.int .u32 0,.string ByteArray.empty,.int .u8 0,.int .u32 0] 61))
    simp only [Option.isSome_none,Option.getD_none,ac,ac0]
    have f0:(w3.alloc (.cells #[.int .u32 0,.string ByteArray.empty,.int .u8 0,.int .u32 0] 61)).cell? ⟨gq,0,none⟩ = some (.int .u32 (qc:Int)):=R4.cell 0
    have HRG4:=hdq RG4
    have HB4:=hdq B4
    have HO5:=hdq HO4
    have B5:=(zag g [.int .u32 (qc:Int)] 0 (w3.alloc (.cells #[.int .u32 0,.string ByteArray.empty,.int .u8 0,.int .u32 0] 61))).below HB4.out (by rw [HG.out]; exact Nat.le_refl _)
    have R5:Row ((w3.alloc (.cells #[.int .u32 0,.string ByteArray.empty,.int .u8 0,.int .u32 0] 61)).setCells g 0 [.int .u32 (qc:Int)]) g #[.int .u32 (qc:Int),.string x.name,.int .u8 (x.kind:Int),.int .u32 (x.par:Int)] 61:=Row.setCells [.int .u32 (qc:Int)] 0 HRG4.out
    have HO6:=hdq (zog HO4 HOF.out (zag g [.int .u32 (qc:Int)] 0 (w3.alloc (.cells #[.int .u32 0,.string ByteArray.empty,.int .u8 0,.int .u32 0] 61))))
    have h0:=R5.cell 0
    have h1:=R5.cell 1
    have h2:=R5.cell 2
    have h3:=R5.cell 3
    have HR5:=hdq R5
    have HB5:=hdq B5
    have hgs:g < ((w3.alloc (.cells #[.int .u32 0,.string ByteArray.empty,.int .u8 0,.int .u32 0] 61)).setCells g 0 [.int .u32 (qc:Int)]).heap.size:=R5.lt
    have HGS:=hdq hgs
    clear R3 RG3 B3 R4 RG4 B4 HO4 HST2 R5 B5 hgs
    change World.cell? _ _ = some (.int .u32 (qc:Int)) at h0
    change World.cell? _ _ = some (.string x.name) at h1
    change World.cell? _ _ = some (.int .u8 (x.kind:Int)) at h2
    change World.cell? _ _ = some (.int .u32 (x.par:Int)) at h3
    go_wp2_with (first | (refine zam rfl 44 _ _ rfl g 0 (.int .u32 (qc:Int)) rfl rfl rfl HRG4.out (by kernel_rfl) (by show 0 < 4; omega) rfl rfl ?_))
    clear h0 h1 h2 h3 f0
    generalize (w3.alloc (.cells #[.int .u32 0,.string ByteArray.empty,.int .u8 0,.int .u32 0] 61)).setCells g 0 [.int .u32 (qc:Int)] = w5 at *
    have WI:=zgy po ko out { x with code:=qc } w5 HO6.out (by have:=HOL.out; have:=HPL.out; have:=HLT.out; omega) HRO.out
    refine WI.mono ?_
    rintro _ w6 ⟨v6,rfl,hown,hb⟩
    obtain ⟨p6,k6,rfl⟩:=zaj hown
    have HOF6:=hdq (zku hown HGS.out)
    obtain ⟨p7,k7,e7,h7⟩:=CsAt.of_own hown
    injection e7 with e71 _ e73
    subst e71
    have HR6:=hdq (HR5.out.below hb)
    have HB6:=hdq (zab HB5.out hb)
    have H7:=hdq h7
    clear WI hown hb h7
    go_wp2_with fail
    refine ⟨⟨k + 1,putC out { x with code:=qc },qc,by have:=HLT.out; omega,by simp,⟨_,_,rfl,H7.out,HOF6.out⟩,HST3.out,zin _ HRO.out,by have:=HOL.out; have:=zdm out { x with code:=qc }; omega,HR6.out,HB6.out⟩,by have:=HLT.out; simp [intOf]; omega⟩
  ·have i1:¬ (k:Int) < (ps.length:Int):=by omega
   obtain rfl:k = ps.length:=by omega
   have hv:R = (0,dropC out x.code):=by rw [HS.out,List.drop_length]; rfl
   subst hv
   clear hlt hk
   go_wp2_with fail
   refine (zdv po ko out x.code _ HO.out (by have:=HOL.out; have:=HPL.out; omega)).mono ?_
   rintro _ w4 ⟨v4,rfl,hown,hb⟩
   have HB4:=hdq (zab HB.out hb)
   have HC:=hdq (CsAt.of_own hown)
   clear hown hb
   go_wp2_with fail
   exact bodyPost_ret (v:=.tuple #[v4,.int .i64 0]) (by simp [results,Tryz.results59,go_sem]) rfl ⟨v4,rfl,HC.out,HB4.out⟩
structure RO where
 kind:Int
 fr:Nat
 too:Nat
 name:ByteArray
 parts:List (Nat × Int)
 starts:List Int
 fin:Int
 pos:Int
def rov (o:RO) (vp vs:Value):List Value:=[.int .i64 o.kind,.int .u32 (o.fr:Int),.int .u32 (o.too:Int),.string o.name,vp,vs,.int .i32 o.fin,.int .i64 o.pos]
def okR (W:World) (o:RO) (vp vs:Value):Prop:=PisAt W vp o.parts∧NsAt .i32 W vs o.starts
theorem okR.below {W W':World} {o:RO} {vp vs:Value} (h:okR W o vp vs) (hb:Below W.heap.size W W'):okR W' o vp vs:=⟨h.1.below hb,h.2.below hb⟩
def chartK (c:List Ac) (a:Ac) (o:RO):Nat × List Ac :=
 if o.kind = 0 then renumberN c a o.too else if o.kind = 1 then (0,putC c { a with name:=o.name }) else if o.kind = 2 then (0,putC c { a with par:=o.too }) else if o.kind = 3 then mergeN c a o.too else splitN c a o.parts
def chartN (c:List Ac) (o:RO):Nat × List Ac:=if (getC c o.fr).isSome = false then (8,[]) else chartK c ((getC c o.fr).getD ac0) o
set_option maxHeartbeats 8000000 in
set_option maxRecDepth 100000 in
theorem zkz (p:Option Addr) (cap:Nat) (c:List Ac) (o:RO) (vp vs:Value) (w:World) (hE:ElsAt ac 4 ac0 w p c) (hO:okR w o vp vs) (hl:c.length≤80000) (hr:AcRise c) :
  Calls Tryz.prog 32 #[.slice p c.length cap,.agg (rov o vp vs).toArray] w fun e w'=>∃ v,e = .returned (.tuple #[v,.int .i64 ((chartN c o).1:Int)])∧CsAt w' v (chartN c o).2∧Below w.heap.size w w':=by
 obtain ⟨⟨pp,pcap,rfl,hP⟩,⟨ps,scap,rfl,_⟩⟩:=hO
 have B0:=zaa (Below.refl _ w) (.cells (rov o (.slice pp o.parts.length pcap) (.slice ps o.starts.length scap)).toArray 47)
 have R0:=Row.new w (rov o (.slice pp o.parts.length pcap) (.slice ps o.starts.length scap)).toArray 47
 have GET:=hdq fun W (hb:Below w.heap.size w W)=>zde p cap c o.fr W (hE.below hb) (by omega) hr
 have REN:=hdq fun (a:Ac) W (hb:Below w.heap.size w W)=>zik p cap c a o.too W (hE.below hb) (by omega) hr
 have WIT:=hdq fun (a:Ac) W (hb:Below w.heap.size w W)=>zgy p cap c a W (hE.below hb) (by omega) hr
 have MER:=hdq fun (a:Ac) W (hb:Below w.heap.size w W)=>zra p cap c a o.too W (hE.below hb) (by omega) hr
 have SPL:=hdq fun (a:Ac) W (hb:Below w.heap.size w W)=>znf p cap c a pp pcap o.parts W (hE.below hb) (hP.below hb) hl hr
 obtain ⟨R,hR⟩:∃ R,R = chartN c o:=⟨_,rfl⟩
 have HR:=hdq hR
 rw [← hR]
 unfold rov at *
 obtain ⟨g,hg⟩:∃ g,g = w.heap.size:=⟨_,rfl⟩
 rw [← hg] at R0
 clear hE hP hl hr hR
 go_enter Tryz.func32,Tryz.ntmps32
 go_wp2_with fail
 have d1:(w.alloc (.cells #[.int .i64 o.kind,.int .u32 (o.fr:Int),.int .u32 (o.too:Int),.string o.name,.slice pp o.parts.length pcap,.slice ps o.starts.length scap,.int .i32 o.fin,.int .i64 o.pos] 47)).cell? ⟨g,1,none⟩ = some (.int .u32 (o.fr:Int)):=R0.cell 1
 rw [← hg]
 change Row (w.alloc (.cells #[.int .i64 o.kind,.int .u32 (o.fr:Int),.int .u32 (o.too:Int),.string o.name,.slice pp o.parts.length pcap,.slice ps o.starts.length scap,.int .i32 o.fin,.int .i64 o.pos] 47)) g #[.int .i64 o.kind,.int .u32 (o.fr:Int),.int .u32 (o.too:Int),.string o.name,.slice pp o.parts.length pcap,.slice ps o.starts.length scap,.int .i32 o.fin,.int .i64 o.pos] _ at R0
 change Below _ _ (w.alloc (.cells #[.int .i64 o.kind,.int .u32 (o.fr:Int),.int .u32 (o.too:Int),.string o.name,.slice pp o.parts.length pcap,.slice ps o.starts.length scap,.int .i32 o.fin,.int .i64 o.pos] 47)) at B0
 generalize w.alloc (.cells #[.int .i64 o.kind,.int .u32 (o.fr:Int),.int .u32 (o.too:Int),.string o.name,.slice pp o.parts.length pcap,.slice ps o.starts.length scap,.int .i32 o.fin,.int .i64 o.pos] 47) = w0 at *
 clear hg d1
 refine (GET.out w0 B0).mono ?_
 rintro _ w1 ⟨rfl,hb⟩
 have R1:=R0.below hb
 have B1:=zab B0 hb
 obtain ⟨q,hq⟩:∃ q,q = getC c o.fr:=⟨_,rfl⟩
 rw [← hq]
 have HQ:=hdq hq
 clear hb R0 B0 GET hq
 obtain ⟨a,ha⟩:∃ a,a = q.getD ac0:=⟨_,rfl⟩
 rw [← ha]
 have HA:=hdq ha
 have R2:=R1.alloc (.cells (ac a).toArray 61)
 have RA:=Row.new w1 (ac a).toArray 61
 have B2:=zaa B1 (.cells (ac a).toArray 61)
 have hgw:w.heap.size≤w1.heap.size:=B1.size
 simp only [ac] at R2 RA B2 ⊢
 by_cases a2:q.isSome = false
 ·have hv:R = (8,[]):=by rw [HR.out]; unfold chartN; rw [← HQ.out,if_pos a2]
  have HB2:=hdq B2
  subst hv
  rw [a2]
  clear a2 ha R1 B1 R2 RA B2
  go_wp2_with fail
  exact bodyPost_ret (v:=.tuple #[.slice none 0 0,.int .i64 8]) (by simp [results,Tryz.results32,go_sem]) rfl ⟨.slice none 0 0,rfl,CsAt.nil _,HB2.out⟩
 have HV:=hdq (show R = chartK c a o by rw [HR.out]; unfold chartN; rw [← HQ.out,if_neg a2,← HA.out])
 have a2:q.isSome = true:=eq_true_of_ne_false a2
 rw [a2]
 clear a2 ha R1 B1 HA HQ HR
 change Row (w1.alloc (.cells #[.int .u32 (a.code:Int),.string a.name,.int .u8 (a.kind:Int),.int .u32 (a.par:Int)] 61)) w1.heap.size #[.int .u32 (a.code:Int),.string a.name,.int .u8 (a.kind:Int),.int .u32 (a.par:Int)] _ at RA
 change Row (w1.alloc (.cells #[.int .u32 (a.code:Int),.string a.name,.int .u8 (a.kind:Int),.int .u32 (a.par:Int)] 61)) g _ _ at R2
 change Below _ _ (w1.alloc (.cells #[.int .u32 (a.code:Int),.string a.name,.int .u8 (a.kind:Int),.int .u32 (a.par:Int)] 61)) at B2
 have d0:(w1.alloc (.cells #[.int .u32 (a.code:Int),.string a.name,.int .u8 (a.kind:Int),.int .u32 (a.par:Int)] 61)).cell? ⟨g,0,none⟩ = some (.int .i64 o.kind):=R2.cell 0
 have d2:(w1.alloc (.cells #[.int .u32 (a.code:Int),.string a.name,.int .u8 (a.kind:Int),.int .u32 (a.par:Int)] 61)).cell? ⟨g,2,none⟩ = some (.int .u32 (o.too:Int)):=R2.cell 2
 have d3:(w1.alloc (.cells #[.int .u32 (a.code:Int),.string a.name,.int .u8 (a.kind:Int),.int .u32 (a.par:Int)] 61)).cell? ⟨g,3,none⟩ = some (.string o.name):=R2.cell 3
 have d4:(w1.alloc (.cells #[.int .u32 (a.code:Int),.string a.name,.int .u8 (a.kind:Int),.int .u32 (a.par:Int)] 61)).cell? ⟨g,4,none⟩ = some (.slice pp o.parts.length pcap):=R2.cell 4
 have f0:(w1.alloc (.cells #[.int .u32 (a.code:Int),.string a.name,.int .u8 (a.kind:Int),.int .u32 (a.par:Int)] 61)).cell? ⟨w1.heap.size,0,none⟩ = some (.int .u32 (a.code:Int)):=RA.cell 0
 have f1:(w1.alloc (.cells #[.int .u32 (a.code:Int),.string a.name,.int .u8 (a.kind:Int),.int .u32 (a.par:Int)] 61)).cell? ⟨w1.heap.size,1,none⟩ = some (.string a.name):=RA.cell 1
 have f2:(w1.alloc (.cells #[.int .u32 (a.code:Int),.string a.name,.int .u8 (a.kind:Int),.int .u32 (a.par:Int)] 61)).cell? ⟨w1.heap.size,2,none⟩ = some (.int .u8 (a.kind:Int)):=RA.cell 2
 have f3:(w1.alloc (.cells #[.int .u32 (a.code:Int),.string a.name,.int .u8 (a.kind:Int),.int .u32 (a.par:Int)] 61)).cell? ⟨w1.heap.size,3,none⟩ = some (.int .u32 (a.par:Int)):=RA.cell 3
 have HRA:=hdq RA
 have HR2:=hdq R2
 have HB2:=hdq B2
 have HGW:=hdq hgw
 clear R2 RA B2 hgw
 obtain ⟨K,hK⟩:∃ K,K = o.kind:=⟨_,rfl⟩
 have HK:=hdq hK
 rw [← hK] at d0
 clear hK
 by_cases k0:K = 0
 ·subst k0
  have HV2:=hdq (show R = renumberN c a o.too by rw [HV.out]; unfold chartK; rw [if_pos HK.out.symm])
  go_wp2_with fail
  refine (REN.out a (w1.alloc (.cells #[.int .u32 (a.code:Int),.string a.name,.int .u8 (a.kind:Int),.int .u32 (a.par:Int)] 61)) HB2.out).mono ?_
  rintro _ w3 ⟨v3,rfl,hc,hb⟩
  have HC:=hdq hc
  have HB3:=hdq (zab HB2.out hb)
  rw [← HV2.out] at HC ⊢
  clear hc hb d0 d2 d3 d4 f0 f1 f2 f3
  go_wp2_with fail
  exact bodyPost_ret (v:=.tuple #[v3,.int .i64 (R.1:Int)]) (by simp [results,Tryz.results32,go_sem]) rfl ⟨v3,rfl,HC.out,HB3.out⟩
 have z0:(K == 0) = false:=beq_eq_false_iff_ne.2 k0
 by_cases k1:K = 1
 ·subst k1
  have HV2:=hdq (show R = (0,putC c { a with name:=o.name }) by rw [HV.out]; unfold chartK; rw [if_neg (by rw [← HK.out]; exact k0),if_pos HK.out.symm])
  have B3:=(zag w1.heap.size [.string o.name] 1 (w1.alloc (.cells #[.int .u32 (a.code:Int),.string a.name,.int .u8 (a.kind:Int),.int .u32 (a.par:Int)] 61))).below HB2.out (HGW.out)
  have R4:Row ((w1.alloc (.cells #[.int .u32 (a.code:Int),.string a.name,.int .u8 (a.kind:Int),.int .u32 (a.par:Int)] 61)).setCells w1.heap.size 1 [.string o.name]) w1.heap.size #[.int .u32 (a.code:Int),.string o.name,.int .u8 (a.kind:Int),.int .u32 (a.par:Int)] 61:=Row.setCells [.string o.name] 1 HRA.out
  have h0:((w1.alloc (.cells #[.int .u32 (a.code:Int),.string a.name,.int .u8 (a.kind:Int),.int .u32 (a.par:Int)] 61)).setCells w1.heap.size 1 [.string o.name]).cell? ⟨w1.heap.size,0,none⟩ = some (.int .u32 (a.code:Int)):=R4.cell 0
  have h1:((w1.alloc (.cells #[.int .u32 (a.code:Int),.string a.name,.int .u8 (a.kind:Int),.int .u32 (a.par:Int)] 61)).setCells w1.heap.size 1 [.string o.name]).cell? ⟨w1.heap.size,1,none⟩ = some (.string o.name):=R4.cell 1
  have h2:((w1.alloc (.cells #[.int .u32 (a.code:Int),.string a.name,.int .u8 (a.kind:Int),.int .u32 (a.par:Int)] 61)).setCells w1.heap.size 1 [.string o.name]).cell? ⟨w1.heap.size,2,none⟩ = some (.int .u8 (a.kind:Int)):=R4.cell 2
  have h3:((w1.alloc (.cells #[.int .u32 (a.code:Int),.string a.name,.int .u8 (a.kind:Int),.int .u32 (a.par:Int)] 61)).setCells w1.heap.size 1 [.string o.name]).cell? ⟨w1.heap.size,3,none⟩ = some (.int .u32 (a.par:Int)):=R4.cell 3
  have HB3:=hdq B3
  clear k0 z0 f0 f1 f2 f3 R4 B3
  go_wp2_with (first | (refine zam rfl 9 _ _ rfl w1.heap.size 1 (.string o.name) rfl rfl rfl HRA.out (by kernel_rfl) (by show 1 < 4; omega) rfl rfl ?_))
  refine (WIT.out { a with name:=o.name } _ HB3.out).mono ?_
  rintro _ w4 ⟨v4,rfl,hown,hb⟩
  have HC:=hdq (CsAt.of_own hown)
  have HB4:=hdq (zab HB3.out hb)
  have hv:=HV2.out
  subst hv
  clear hown hb d0 d2 d3 d4 h0 h1 h2 h3
  go_wp2_with fail
  exact bodyPost_ret (v:=.tuple #[v4,.int .i64 0]) (by simp [results,Tryz.results32,go_sem]) rfl ⟨v4,rfl,HC.out,HB4.out⟩
 have z1:(K == 1) = false:=beq_eq_false_iff_ne.2 k1
 by_cases k2:K = 2
 ·subst k2
  have HV2:=hdq (show R = (0,putC c { a with par:=o.too }) by rw [HV.out]; unfold chartK; rw [if_neg (by rw [← HK.out]; exact k0),if_neg (by rw [← HK.out]; exact k1),if_pos HK.out.symm])
  have B3:=(zag w1.heap.size [.int .u32 (o.too:Int)] 3 (w1.alloc (.cells #[.int .u32 (a.code:Int),.string a.name,.int .u8 (a.kind:Int),.int .u32 (a.par:Int)] 61))).below HB2.out (HGW.out)
  have R4:Row ((w1.alloc (.cells #[.int .u32 (a.code:Int),.string a.name,.int .u8 (a.kind:Int),.int .u32 (a.par:Int)] 61)).setCells w1.heap.size 3 [.int .u32 (o.too:Int)]) w1.heap.size #[.int .u32 (a.code:Int),.string a.name,.int .u8 (a.kind:Int),.int .u32 (o.too:Int)] 61:=Row.setCells [.int .u32 (o.too:Int)] 3 HRA.out
  have h0:((w1.alloc (.cells #[.int .u32 (a.code:Int),.string a.name,.int .u8 (a.kind:Int),.int .u32 (a.par:Int)] 61)).setCells w1.heap.size 3 [.int .u32 (o.too:Int)]).cell? ⟨w1.heap.size,0,none⟩ = some (.int .u32 (a.code:Int)):=R4.cell 0
  have h1:((w1.alloc (.cells #[.int .u32 (a.code:Int),.string a.name,.int .u8 (a.kind:Int),.int .u32 (a.par:Int)] 61)).setCells w1.heap.size 3 [.int .u32 (o.too:Int)]).cell? ⟨w1.heap.size,1,none⟩ = some (.string a.name):=R4.cell 1
  have h2:((w1.alloc (.cells #[.int .u32 (a.code:Int),.string a.name,.int .u8 (a.kind:Int),.int .u32 (a.par:Int)] 61)).setCells w1.heap.size 3 [.int .u32 (o.too:Int)]).cell? ⟨w1.heap.size,2,none⟩ = some (.int .u8 (a.kind:Int)):=R4.cell 2
  have h3:((w1.alloc (.cells #[.int .u32 (a.code:Int),.string a.name,.int .u8 (a.kind:Int),.int .u32 (a.par:Int)] 61)).setCells w1.heap.size 3 [.int .u32 (o.too:Int)]).cell? ⟨w1.heap.size,3,none⟩ = some (.int .u32 (o.too:Int)):=R4.cell 3
  have HB3:=hdq B3
  clear k0 z0 k1 z1 f0 f1 f2 f3 R4 B3
  go_wp2_with (first | (refine zam rfl 44 _ _ rfl w1.heap.size 3 (.int .u32 (o.too:Int)) rfl rfl rfl HRA.out (by kernel_rfl) (by show 3 < 4; omega) rfl rfl ?_))
  refine (WIT.out { a with par:=o.too } _ HB3.out).mono ?_
  rintro _ w4 ⟨v4,rfl,hown,hb⟩
  have HC:=hdq (CsAt.of_own hown)
  have HB4:=hdq (zab HB3.out hb)
  have hv:=HV2.out
  subst hv
  clear hown hb d0 d2 d3 d4 h0 h1 h2 h3
  go_wp2_with fail
  exact bodyPost_ret (v:=.tuple #[v4,.int .i64 0]) (by simp [results,Tryz.results32,go_sem]) rfl ⟨v4,rfl,HC.out,HB4.out⟩
 have z2:(K == 2) = false:=beq_eq_false_iff_ne.2 k2
 by_cases k3:K = 3
 ·subst k3
  have HV2:=hdq (show R = mergeN c a o.too by rw [HV.out]; unfold chartK; rw [if_neg (by rw [← HK.out]; exact k0),if_neg (by rw [← HK.out]; exact k1),if_neg (by rw [← HK.out]; exact k2),if_pos HK.out.symm])
  clear k0 k1 k2 z0 z1 z2
  go_wp2_with fail
  refine (MER.out a (w1.alloc (.cells #[.int .u32 (a.code:Int),.string a.name,.int .u8 (a.kind:Int),.int .u32 (a.par:Int)] 61)) HB2.out).mono ?_
  rintro _ w3 ⟨v3,rfl,hc,hb⟩
  have HC:=hdq hc
  have HB3:=hdq (zab HB2.out hb)
  rw [← HV2.out] at HC ⊢
  clear hc hb d0 d2 d3 d4 f0 f1 f2 f3
  go_wp2_with fail
  exact bodyPost_ret (v:=.tuple #[v3,.int .i64 (R.1:Int)]) (by simp [results,Tryz.results32,go_sem]) rfl ⟨v3,rfl,HC.out,HB3.out⟩
 have z3:(K == 3) = false:=beq_eq_false_iff_ne.2 k3
 have HV2:=hdq (show R = splitN c a o.parts by rw [HV.out]; unfold chartK; rw [if_neg (by rw [← HK.out]; exact k0),if_neg (by rw [← HK.out]; exact k1),if_neg (by rw [← HK.out]; exact k2),if_neg (by rw [← HK.out]; exact k3)])
 clear k0 k1 k2 k3
 go_wp2_with fail
 refine (SPL.out a (w1.alloc (.cells #[.int .u32 (a.code:Int),.string a.name,.int .u8 (a.kind:Int),.int .u32 (a.par:Int)] 61)) HB2.out).mono ?_
 rintro _ w3 ⟨v3,rfl,hc,hb⟩
 have HC:=hdq hc
 have HB3:=hdq (zab HB2.out hb)
 rw [← HV2.out] at HC ⊢
 clear hc hb d0 d2 d3 d4 f0 f1 f2 f3
 go_wp2_with fail
 exact bodyPost_ret (v:=.tuple #[v3,.int .i64 (R.1:Int)]) (by simp [results,Tryz.results32,go_sem]) rfl ⟨v3,rfl,HC.out,HB3.out⟩
def unitN (u:List Int) (o:RO):Nat × List Int :=
 if 999 < o.fr∨999 < o.too then (5,[]) else if (o.fr:Int) ∉ u then (8,[]) else if o.kind = 6∧o.fr = o.too then (16,[]) else if o.kind = 6∧(o.too:Int) ∉ u then (8,[]) else if o.kind = 5∧(o.too:Int) ∈ u then (7,[]) else (0,putU (dropU u o.fr) o.too)
theorem zeo (l:List Int) (x:Int):(dropU l x).length≤l.length:=List.length_filter_le _ _
theorem zlp {l:List Int} (h:l.Pairwise fun x y=>x < y):NRise l:=by
 intro i j hij hj
 rw [List.getD_eq_getElem?_getD,List.getD_eq_getElem?_getD,List.getElem?_eq_getElem hj,List.getElem?_eq_getElem (by omega)]
 exact List.pairwise_iff_getElem.1 h i j (by omega) hj hij
theorem zta {l:List Int} (h:NRise l):l.Pairwise fun x y=>x < y:=by
 rw [List.pairwise_iff_getElem]
 intro i j hi hj hij
 have:=h i j hij hj
 rwa [List.getD_eq_getElem?_getD,List.getD_eq_getElem?_getD,List.getElem?_eq_getElem hj,List.getElem?_eq_getElem (by omega)] at this
theorem zdr {l:List Int} (n:Int) (h:NRise l):NRise (dropU l n):=zlp ((zta h).filter _)
set_option maxHeartbeats 8000000 in
set_option maxRecDepth 100000 in
theorem zna (uv:Value) (u:List Int) (o:RO) (vp vs:Value) (w:World) (hN:NsAt .u16 w uv u) (hO:okR w o vp vs) (hl:u.length≤80000) (hr:NRise u) :
  Calls Tryz.prog 31 #[uv,.agg (rov o vp vs).toArray] w fun e w'=>∃ v,e = .returned (.tuple #[v,.int .i64 ((unitN u o).1:Int)])∧NsAt .u16 w' v (unitN u o).2∧Below w.heap.size w w':=by
 obtain ⟨⟨pp,pcap,rfl,_⟩,⟨ps,scap,rfl,_⟩⟩:=hO
 have B0:=zaa (Below.refl _ w) (.cells (rov o (.slice pp o.parts.length pcap) (.slice ps o.starts.length scap)).toArray 47)
 have R0:=Row.new w (rov o (.slice pp o.parts.length pcap) (.slice ps o.starts.length scap)).toArray 47
 have HAS:=hdq fun (x:Int) W (hb:Below w.heap.size w W)=>has_any uv u x W (hN.below hb) (by omega)
 have HNS:=hdq hN
 have HL:=hdq hl
 have HRS:=hdq hr
 obtain ⟨R,hR⟩:∃ R,R = unitN u o:=⟨_,rfl⟩
 have HR:=hdq hR
 rw [← hR]
 unfold rov at *
 obtain ⟨pu,capu,rfl,hpu⟩:=hN
 obtain ⟨g,hg⟩:∃ g,g = w.heap.size:=⟨_,rfl⟩
 rw [← hg] at R0
 have d0:(w.alloc (.cells #[.int .i64 o.kind,.int .u32 (o.fr:Int),.int .u32 (o.too:Int),.string o.name,.slice pp o.parts.length pcap,.slice ps o.starts.length scap,.int .i32 o.fin,.int .i64 o.pos] 47)).cell? ⟨g,0,none⟩ = some (.int .i64 o.kind):=R0.cell 0
 have d1:(w.alloc (.cells #[.int .i64 o.kind,.int .u32 (o.fr:Int),.int .u32 (o.too:Int),.string o.name,.slice pp o.parts.length pcap,.slice ps o.starts.length scap,.int .i32 o.fin,.int .i64 o.pos] 47)).cell? ⟨g,1,none⟩ = some (.int .u32 (o.fr:Int)):=R0.cell 1
 have d2:(w.alloc (.cells #[.int .i64 o.kind,.int .u32 (o.fr:Int),.int .u32 (o.too:Int),.string o.name,.slice pp o.parts.length pcap,.slice ps o.starts.length scap,.int .i32 o.fin,.int .i64 o.pos] 47)).cell? ⟨g,2,none⟩ = some (.int .u32 (o.too:Int)):=R0.cell 2
 change Below _ _ (w.alloc (.cells #[.int .i64 o.kind,.int .u32 (o.fr:Int),.int .u32 (o.too:Int),.string o.name,.slice pp o.parts.length pcap,.slice ps o.starts.length scap,.int .i32 o.fin,.int .i64 o.pos] 47)) at B0
 have HG:=hdq hg
 have HPU:=hdq hpu
 clear hl hr hR hpu R0
 go_enter Tryz.func31,Tryz.ntmps31
 by_cases a1:999 < o.fr
 ·have hv:R = (5,[]):=by rw [HR.out]; unfold unitN; rw [if_pos (.inl a1)]
  have z1:(999:Int) < (o.fr:Int):=by omega
  have HB:=hdq B0
  subst hv
  rw [hg] at d0 d1 d2
  clear a1 B0
  go_wp2_with fail
  exact bodyPost_ret (v:=.tuple #[.slice none 0 0,.int .i64 5]) (by simp [results,Tryz.results31,go_sem]) rfl ⟨.slice none 0 0,rfl,⟨none,0,rfl,.inl rfl⟩,HB.out⟩
 have z1:¬ (999:Int) < (o.fr:Int):=by omega
 by_cases a2:999 < o.too
 ·have hv:R = (5,[]):=by rw [HR.out]; unfold unitN; rw [if_pos (.inr a2)]
  have z2:(999:Int) < (o.too:Int):=by omega
  have HB:=hdq B0
  subst hv
  rw [hg] at d0 d1 d2
  clear a1 a2 B0
  go_wp2_with fail
  exact bodyPost_ret (v:=.tuple #[.slice none 0 0,.int .i64 5]) (by simp [results,Tryz.results31,go_sem]) rfl ⟨.slice none 0 0,rfl,⟨none,0,rfl,.inl rfl⟩,HB.out⟩
 have z2:¬ (999:Int) < (o.too:Int):=by omega
 have HR1:=hdq (show R = if (o.fr:Int) ∉ u then (8,[]) else if o.kind = 6∧o.fr = o.too then (16,[]) else if o.kind = 6∧(o.too:Int) ∉ u then (8,[]) else if o.kind = 5∧(o.too:Int) ∈ u then (7,[]) else (0,putU (dropU u o.fr) o.too) by rw [HR.out]; unfold unitN; rw [if_neg (by omega)])
 have y1:IntKind.u16.wrap (o.fr:Int) = (o.fr:Int):=by rw [IntKind.wrap_u16]; omega
 have y2:IntKind.u16.wrap (o.too:Int) = (o.too:Int):=by rw [IntKind.wrap_u16]; omega
 clear a1 a2 HR
 rw [hg] at d0 d1 d2
 go_wp2_with fail
 go_quiet (fail)
 clear z1 z2 y1 y2
 have HB0:=hdq (zeq B0 nq)
 have e0:((w.alloc (.cells #[.int .i64 o.kind,.int .u32 (o.fr:Int),.int .u32 (o.too:Int),.string o.name,.slice pp o.parts.length pcap,.slice ps o.starts.length scap,.int .i32 o.fin,.int .i64 o.pos] 47)).drewN nq).cell? ⟨g,0,none⟩ = some (.int .i64 o.kind):=by rw [hg]; exact d0
 rw [← hg]
 clear B0 d0 d1 d2 hg
 generalize (w.alloc (.cells #[.int .i64 o.kind,.int .u32 (o.fr:Int),.int .u32 (o.too:Int),.string o.name,.slice pp o.parts.length pcap,.slice ps o.starts.length scap,.int .i32 o.fin,.int .i64 o.pos] 47)).drewN nq = w1 at *
 have HB:=HB0
 by_cases a3:(o.fr:Int) ∈ u
 case neg =>
  have hv:R = (8,[]):=by rw [HR1.out,if_pos a3]
  have e3:decide ((o.fr:Int) ∈ u) = false:=decide_eq_false a3
  subst hv
  clear a3
  go_wp2_with fail
  refine (HAS.out (o.fr:Int) w1 HB.out).mono ?_
  rintro _ w1 ⟨rfl,rfl⟩
  rw [e3]
  go_wp2_with fail
  exact bodyPost_ret (v:=.tuple #[.slice none 0 0,.int .i64 8]) (by simp [results,Tryz.results31,go_sem]) rfl ⟨.slice none 0 0,rfl,⟨none,0,rfl,.inl rfl⟩,HB.out⟩
 have HCL:Hid (∀ i,i < u.length→w.cell? ⟨(pu.getD ⟨0,0,none⟩).block,(pu.getD ⟨0,0,none⟩).off + i,none⟩ = some (.int .u16 (u.getD i 0))):=hdq (by
  rcases HPU.out with h | ⟨b,off,h1,h2⟩
  ·rw [h] at a3; simp at a3
  ·rw [h1]; exact h2)
 obtain ⟨bu,ou,rfl⟩:∃ b off,pu = some ⟨b,off,none⟩:=by
  rcases HPU.out with h | ⟨b,off,h1,h2⟩
  ·rw [h] at a3; simp at a3
  ·exact ⟨b,off,h1⟩
 change Hid (∀ i,i < u.length→w.cell? ⟨bu,ou + i,none⟩ = some (.int .u16 (u.getD i 0))) at HCL
 have e3:decide ((o.fr:Int) ∈ u) = true:=decide_eq_true a3
 have HR2:=hdq (show R = if o.kind = 6∧o.fr = o.too then (16,[]) else if o.kind = 6∧(o.too:Int) ∉ u then (8,[]) else if o.kind = 5∧(o.too:Int) ∈ u then (7,[]) else (0,putU (dropU u o.fr) o.too) by rw [HR1.out,if_neg (by simpa using a3)])
 clear a3 HPU
 go_wp2_with fail
 refine (HAS.out (o.fr:Int) w1 HB.out).mono ?_
 rintro _ w1 ⟨rfl,rfl⟩
 rw [e3]
 clear e3 HB0
 obtain ⟨K,hK⟩:∃ K,K = o.kind:=⟨_,rfl⟩
 rw [← hK] at e0 HR2
 by_cases k6:K = 6
 ·have z6:(K == 6) = true:=by rw [k6]; rfl
  have z5:(K == 5) = false:=by rw [k6]; rfl
  by_cases a4:o.fr = o.too
  ·have hv:R = (16,[]):=by rw [HR2.out,if_pos ⟨k6,a4⟩]
   have z4:((o.fr:Int) == (o.too:Int)) = true:=by simp [a4]
   clear hK
   subst hv
   clear a4 k6
   go_wp2_with fail
   exact bodyPost_ret (v:=.tuple #[.slice none 0 0,.int .i64 16]) (by simp [results,Tryz.results31,go_sem]) rfl ⟨.slice none 0 0,rfl,⟨none,0,rfl,.inl rfl⟩,HB.out⟩
  have z4:((o.fr:Int) == (o.too:Int)) = false:=beq_eq_false_iff_ne.2 (by omega)
  by_cases a5:(o.too:Int) ∈ u
  case neg =>
   have hv:R = (8,[]):=by rw [HR2.out,if_neg (fun h=>a4 h.2),if_pos ⟨k6,a5⟩]
   have e5:decide ((o.too:Int) ∈ u) = false:=decide_eq_false a5
   subst hv
   clear a4 k6 a5 hK
   go_wp2_with fail
   refine (HAS.out (o.too:Int) w1 HB.out).mono ?_
   rintro _ w1 ⟨rfl,rfl⟩
   rw [e5]
   go_wp2_with fail
   exact bodyPost_ret (v:=.tuple #[.slice none 0 0,.int .i64 8]) (by simp [results,Tryz.results31,go_sem]) rfl ⟨.slice none 0 0,rfl,⟨none,0,rfl,.inl rfl⟩,HB.out⟩
  have hv:R = (0,putU (dropU u o.fr) o.too):=by rw [HR2.out,if_neg (fun h=>a4 h.2),if_neg (fun h=>h.2 a5),if_neg (fun h=>by omega)]
  have e5:decide ((o.too:Int) ∈ u) = true:=decide_eq_true a5
  clear a4 k6 a5 hK
  go_wp2_with fail
  refine (HAS.out (o.too:Int) w1 HB.out).mono ?_
  rintro _ w1 ⟨rfl,rfl⟩
  rw [e5]
  clear e5
  have HF:=hdq (zcz bu ou capu u (o.fr:Int) w1 (fun i hi=>zae (HCL.out i hi) HB.out) (by have:=HL.out; omega))
  go_wp2_with fail
  refine HF.out.mono ?_
  rintro _ w3 ⟨g3,k3,rfl,hc3,hb⟩
  have HC3:=hdq hc3
  have HB3:=hdq (zab HB.out hb)
  clear hc3 hb HF
  go_wp2_with fail
  refine (zfj g3 0 k3 (dropU u (o.fr:Int)) (o.too:Int) w3 (fun i hi=>by rw [Nat.zero_add]; exact HC3.out i hi) (by have:=HL.out; have:=zeo u (o.fr:Int); omega) (zdr _ HRS.out)).mono ?_
  rintro _ w4 ⟨v4,rfl,hown,hb⟩
  have HN:=hdq (NsAt.of_own hown).1
  have HB4:=hdq (zab HB3.out hb)
  clear hown hb
  go_wp2_with fail
  exact bodyPost_ret (v:=.tuple #[v4,.int .i64 0]) (by simp [results,Tryz.results31,go_sem]) rfl ⟨v4,by rw [hv]; rfl,by rw [hv]; exact HN.out,HB4.out⟩
 have z6:(K == 6) = false:=beq_eq_false_iff_ne.2 k6
 by_cases k5:K = 5
 ·have z5:(K == 5) = true:=by rw [k5]; rfl
  by_cases a5:(o.too:Int) ∈ u
  ·have hv:R = (7,[]):=by rw [HR2.out,if_neg (fun h=>k6 h.1),if_neg (fun h=>k6 h.1),if_pos ⟨k5,a5⟩]
   have e5:decide ((o.too:Int) ∈ u) = true:=decide_eq_true a5
   subst hv
   clear k6 k5 a5 hK
   go_wp2_with fail
   refine (HAS.out (o.too:Int) w1 HB.out).mono ?_
   rintro _ w1 ⟨rfl,rfl⟩
   rw [e5]
   go_wp2_with fail
   exact bodyPost_ret (v:=.tuple #[.slice none 0 0,.int .i64 7]) (by simp [results,Tryz.results31,go_sem]) rfl ⟨.slice none 0 0,rfl,⟨none,0,rfl,.inl rfl⟩,HB.out⟩
  have hv:R = (0,putU (dropU u o.fr) o.too):=by rw [HR2.out,if_neg (fun h=>k6 h.1),if_neg (fun h=>k6 h.1),if_neg (fun h=>a5 h.2)]
  have e5:decide ((o.too:Int) ∈ u) = false:=decide_eq_false a5
  clear k6 k5 a5 hK
  go_wp2_with fail
  refine (HAS.out (o.too:Int) w1 HB.out).mono ?_
  rintro _ w1 ⟨rfl,rfl⟩
  rw [e5]
  clear e5
  have HF:=hdq (zcz bu ou capu u (o.fr:Int) w1 (fun i hi=>zae (HCL.out i hi) HB.out) (by have:=HL.out; omega))
  go_wp2_with fail
  refine HF.out.mono ?_
  rintro _ w3 ⟨g3,k3,rfl,hc3,hb⟩
  have HC3:=hdq hc3
  have HB3:=hdq (zab HB.out hb)
  clear hc3 hb HF
  go_wp2_with fail
  refine (zfj g3 0 k3 (dropU u (o.fr:Int)) (o.too:Int) w3 (fun i hi=>by rw [Nat.zero_add]; exact HC3.out i hi) (by have:=HL.out; have:=zeo u (o.fr:Int); omega) (zdr _ HRS.out)).mono ?_
  rintro _ w4 ⟨v4,rfl,hown,hb⟩
  have HN:=hdq (NsAt.of_own hown).1
  have HB4:=hdq (zab HB3.out hb)
  clear hown hb
  go_wp2_with fail
  exact bodyPost_ret (v:=.tuple #[v4,.int .i64 0]) (by simp [results,Tryz.results31,go_sem]) rfl ⟨v4,by rw [hv]; rfl,by rw [hv]; exact HN.out,HB4.out⟩
 have z5:(K == 5) = false:=beq_eq_false_iff_ne.2 k5
 have hv:R = (0,putU (dropU u o.fr) o.too):=by rw [HR2.out,if_neg (fun h=>k6 h.1),if_neg (fun h=>k6 h.1),if_neg (fun h=>k5 h.1)]
 clear k6 k5 hK
 have HF:=hdq (zcz bu ou capu u (o.fr:Int) w1 (fun i hi=>zae (HCL.out i hi) HB.out) (by have:=HL.out; omega))
 go_wp2_with fail
 refine HF.out.mono ?_
 rintro _ w3 ⟨g3,k3,rfl,hc3,hb⟩
 have HC3:=hdq hc3
 have HB3:=hdq (zab HB.out hb)
 clear hc3 hb HF
 go_wp2_with fail
 refine (zfj g3 0 k3 (dropU u (o.fr:Int)) (o.too:Int) w3 (fun i hi=>by rw [Nat.zero_add]; exact HC3.out i hi) (by have:=HL.out; have:=zeo u (o.fr:Int); omega) (zdr _ HRS.out)).mono ?_
 rintro _ w4 ⟨v4,rfl,hown,hb⟩
 have HN:=hdq (NsAt.of_own hown).1
 have HB4:=hdq (zab HB3.out hb)
 clear hown hb
 go_wp2_with fail
 exact bodyPost_ret (v:=.tuple #[v4,.int .i64 0]) (by simp [results,Tryz.results31,go_sem]) rfl ⟨v4,by rw [hv]; rfl,by rw [hv]; exact HN.out,HB4.out⟩
end Go.Proofs.YtlpdfglbdijkoaaGreatDoor