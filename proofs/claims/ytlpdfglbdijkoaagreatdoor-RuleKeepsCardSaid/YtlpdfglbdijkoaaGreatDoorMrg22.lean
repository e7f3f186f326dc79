/-
  Own texts, several in one (Same13, Same13b, Same13c, Make8).
-/
import Derived.Test.YtlpdfglbdijkoaaGreatDoorMrg11
import Derived.Test.YtlpdfglbdijkoaaGreatDoorMrg20
import Derived.Test.YtlpdfglbdijkoaaGreatDoorMrg21
namespace Go.Proofs.YtlpdfglbdijkoaaGreatDoor
open Go.RowKit
set_option linter.unusedVariables false
set_option linter.unusedSimpArgs false
set_option maxHeartbeats 2000000 in
set_option maxRecDepth 100000 in
theorem zoe (p1 p2:Option Addr) (c1 c2:Nat) (l m:List (Int)) (w:World) (h1:(l = []∨∃ b off,p1 = some ⟨b,off,none⟩∧∀ i,i < l.length→w.cell? ⟨b,off + i,none⟩ = some (.int .i32 (l.getD i 0)))) (h2:(m = []∨∃ b off,p2 = some ⟨b,off,none⟩∧∀ i,i < m.length→w.cell? ⟨b,off + i,none⟩ = some (.int .i32 (m.getD i 0)))) (hl:l.length≤1000000) :
  Calls Tryz.prog 34 #[.slice p1 l.length c1,.slice p2 m.length c2] w fun e w'=>e = .returned (.bool (decide (l = m)))∧Below w.heap.size w w':=by
 have H1:=hdq h1
 have H2:=hdq h2
 have HL:=hdq hl
 clear h1 h2 hl
 by_cases hlm:l.length = m.length
 ·have HLM:=hdq hlm
  have j0:(m.length:Int) = (l.length:Int):=by omega
  rw [← hlm]
  clear j0 hlm
  go_enter Tryz.func34,Tryz.ntmps34
  go_wp2_with fail
  go_loopw [13] (fun i wr=>∃ k:Nat,k≤l.length∧i = .int .i64 k∧l.take k = m.take k∧Below w.heap.size w wr) (fun i _=>l.length - (intOf i).toNat)
  case atStart=>exact ⟨0,by omega,rfl,rfl,Below.refl _ _⟩
  case round =>
  obtain ⟨k,hk,rfl,htk,BB⟩:=hrel
  have HBB:=hdq BB
  have HTK:=hdq htk
  have hlm:=HLM.out
  clear BB htk
  by_cases hlt:k < l.length
  ·have hk1:(0:Int)≤(k:Int):=by omega
   have hk2:(k:Int) < (l.length:Int):=by omega
   obtain ⟨b1,o1,rfl,e1⟩:∃ b off,p1 = some ⟨b,off,none⟩∧∀ i,i < l.length→w.cell? ⟨b,off + i,none⟩ = some (.int .i32 (l.getD i 0)):=by
    rcases H1.out with h | h
    ·exact absurd hlt (by rw [h]; simp)
    ·exact h
   obtain ⟨b2,o2,rfl,e2⟩:∃ b off,p2 = some ⟨b,off,none⟩∧∀ i,i < m.length→w.cell? ⟨b,off + i,none⟩ = some (.int .i32 (m.getD i 0)):=by
    rcases H2.out with h | h
    ·exact absurd hlt (by rw [hlm,h]; simp)
    ·exact h
   obtain ⟨x,hx⟩:∃ x,x = l.getD k 0:=⟨_,rfl⟩
   obtain ⟨y,hy⟩:∃ y,y = m.getD k 0:=⟨_,rfl⟩
   have e1k:=e1 k hlt
   have e2k:=e2 k (by omega)
   rw [← hx] at e1k
   rw [← hy] at e2k
   have d0:∀ n:QW (fun w'=>Below wr.heap.size wr w'),n.w.cell? ⟨b1,o1 + k,none⟩ = some (.int .i32 x):=fun n=>zae e1k (zab HBB.out n.h)
   have f0:∀ n:QW (fun w'=>Below wr.heap.size wr w'),n.w.cell? ⟨b2,o2 + k,none⟩ = some (.int .i32 y):=fun n=>zae e2k (zab HBB.out n.h)
   have hstep:l.take (k + 1) = l.take k ++ [x]∧m.take (k + 1) = m.take k ++ [y]:=by
    rw [hx,hy,List.getD_eq_getElem?_getD,List.getD_eq_getElem?_getD,List.getElem?_eq_getElem hlt,List.getElem?_eq_getElem (show k < m.length by omega),List.take_succ_eq_append_getElem hlt,List.take_succ_eq_append_getElem (show k < m.length by omega)]
    exact ⟨rfl,rfl⟩
   have HST:=hdq hstep
   have HLT:=hdq hlt
   clear e1 e2 e1k e2k hstep hx hy hlm
   by_cases hxy:x = y
   ·subst hxy
    go_wp2_with fail
    refine zbj (fun w'=>Below wr.heap.size wr w') (by kernel_rfl) (by kernel_rfl) (zat (Below.refl _ _)) (fun hne=>?_)
    repeat (go_big_quiet_step (fail))
    refine wpQuiet_nil ?_
    intro _ hw'
    obtain ⟨⟨wy,S⟩,rfl⟩:=hw'
    clear d0 f0
    have ev:IntKind.i64.wrap ((k:Int) + 1) = ((k + 1:Nat):Int):=by have:=HL.out; rw [IntKind.wrap_i64]; omega
    go_wp2_with fail
    exact ⟨⟨k + 1,by have:=HLT.out; omega,rfl,by rw [HST.out.1,HST.out.2,HTK.out],zab HBB.out S⟩,by have:=HLT.out; simp [intOf]; omega⟩
   ·have hf:decide (l = m) = false:=decide_eq_false (fun e=>hxy (by
     have h1:=HST.out.1
     have h2:=HST.out.2
     rw [← e,h1] at h2
     simpa using h2))
    have hne2:(decide (x = y)) = false:=decide_eq_false hxy
    have hne3:(x != y) = true:=by simp [hxy]
    go_wp2_with fail
    refine zbj (fun w'=>Below wr.heap.size wr w') (by kernel_rfl) (by kernel_rfl) (zat (Below.refl _ _)) (fun hne=>?_)
    repeat (go_big_quiet_step (fail))
    refine wpQuiet_nil ?_
    intro _ hw'
    obtain ⟨⟨wy,S⟩,rfl⟩:=hw'
    clear d0 f0
    go_wp2_with fail
    go_ret
    exact ⟨congrArg (fun b=>Ending.returned (Value.bool b)) hf.symm,zab HBB.out S⟩
  ·obtain rfl:k = l.length:=by omega
   have hk0:¬ ((l.length:Int) < (l.length:Int)):=by omega
   have ht:decide (l = m) = true:=decide_eq_true (by have:=HTK.out; rw [List.take_length,hlm,List.take_length] at this; exact this)
   clear hlm
   go_wp2
   go_ret
   first | exact ⟨rfl,HBB.out⟩ | exact ⟨congrArg (fun b=>Ending.returned (Value.bool b)) ht.symm,HBB.out⟩
 ·have hf:decide (l = m) = false:=decide_eq_false (fun e=>hlm (by rw [e]))
  rw [hf]
  have j1:¬ (l.length:Int) = (m.length:Int):=by omega
  go_enter Tryz.func34,Tryz.ntmps34
  go_wp2_with fail
  go_ret
  exact ⟨rfl,Below.refl _ _⟩
set_option maxHeartbeats 2000000 in
set_option maxRecDepth 100000 in
theorem zdj (v1 v2:Value) (l m:List Int) (f g:Int) (w:World) (h1:NsAt .i32 w v1 l) (h2:NsAt .i32 w v2 m) (hl:l.length≤1000000) :
  Calls Tryz.prog 15 #[.agg #[v1,.int .i32 f],.agg #[v2,.int .i32 g]] w fun e w'=>e = .returned (.bool (decide (f = g) && decide (l = m)))∧Below w.heap.size w w':=by
 obtain ⟨p1,k1,rfl,h1⟩:=h1
 obtain ⟨p2,k2,rfl,h2⟩:=h2
 have RA:=(Row.new w #[.slice p1 l.length k1,.int .i32 f] 39).alloc (.cells #[.slice p2 m.length k2,.int .i32 g] 39)
 have RB:=Row.new (w.alloc (.cells #[.slice p1 l.length k1,.int .i32 f] 39)) #[.slice p2 m.length k2,.int .i32 g] 39
 have hsz:(w.alloc (.cells #[.slice p1 l.length k1,.int .i32 f] 39)).heap.size = w.heap.size + 1:=by simp
 rw [hsz] at RB
 have BB:=zaa (zaa (Below.refl _ w) (.cells #[.slice p1 l.length k1,.int .i32 f] 39)) (.cells #[.slice p2 m.length k2,.int .i32 g] 39)
 have hc:Calls Tryz.prog 34 #[.slice p1 l.length k1,.slice p2 m.length k2] ((w.alloc (.cells #[.slice p1 l.length k1,.int .i32 f] 39)).alloc (.cells #[.slice p2 m.length k2,.int .i32 g] 39)) _:=zoe p1 p2 k1 k2 l m _ (by
  rcases h1 with h | ⟨b,off,e,h⟩
  ·exact .inl h
  ·exact .inr ⟨b,off,e,fun i hi=>zae (h i hi) BB⟩) (by
  rcases h2 with h | ⟨b,off,e,h⟩
  ·exact .inl h
  ·exact .inr ⟨b,off,e,fun i hi=>zae (h i hi) BB⟩) hl
 have HC:=hdq hc
 have HB:=hdq BB
 have a0:=RA.cell 0
 have a1:=RA.cell 1
 have b0:=RB.cell 0
 have b1:=RB.cell 1
 simp at a0 a1 b0 b1
 clear RA RB BB hc h1 h2 hsz
 by_cases hfg:f = g
 ·subst hfg
  go_enter Tryz.func15,Tryz.ntmps15
  go_wp2_with fail
  refine HC.out.mono ?_
  rintro _ w2 ⟨rfl,hb⟩
  go_wp2_with fail
  go_ret
  exact ⟨by simp,zab HB.out hb⟩
 ·have hd:decide (f = g) = false:=decide_eq_false hfg
  go_enter Tryz.func15,Tryz.ntmps15
  go_wp2_with fail
  go_ret
  exact ⟨by simp [hfg],HB.out⟩
end Go.Proofs.YtlpdfglbdijkoaaGreatDoor
namespace Go.Proofs.YtlpdfglbdijkoaaGreatDoor
open Go.RowKit
set_option linter.unusedVariables false
set_option linter.unusedSimpArgs false
namespace Sc
def dayAt (first:Int) (long:List Int):Nat→Int
 | 0=>first
 | k + 1=>dayAt first long k + (1 + long.getD k 0 % 40)
def mkStarts (first:Int) (long:List Int) (k:Nat):List Int:=(List.range (k + 1)).map (dayAt first long)
theorem mkStarts_succ (first:Int) (long:List Int) (k:Nat):mkStarts first long (k + 1) = mkStarts first long k ++ [dayAt first long (k + 1)]:=by
 unfold mkStarts
 rw [List.range_succ,List.map_append]
 rfl
theorem dayAt_bd (first:Int) (long:List Int) (h:-32768≤first∧first≤32767):∀ k,first + k≤dayAt first long k∧dayAt first long k≤first + 40 * k
 | 0=>by simp [dayAt]
 | k + 1=>by
  have:=dayAt_bd first long h k
  unfold dayAt
  omega
end Sc
theorem zld (W:World) (B:Nat) (ty:TypeId) (v:Value) (n:Nat) (xs:List Int) (hown:W.ownsRow B 37 1 v n (nv .i32 xs)) (g:Nat) (z:Int) (RG:Row W g #[.int .i32 z] 37) (hn:n≤100000) (hB:B≤W.heap.size) :
  ∃ v' w',(Builtin.append_ #[36,36] ty #[v,.slice (some ⟨g,0,none⟩) 1 1]).run Tryz.prog W = .ok v' w'∧w'.ownsRow B 37 1 v' (n + 1) (nv .i32 (xs ++ [z]))∧Below B W w'∧∀ b cs t,Row W b cs t→t ≠ 37→Row w' b cs t:=by
 have hi0:(Tryz.prog.info? 37).map (fun i=>(i.zero,i.size,i.bytes)) = some (some (.int .i32 0),1,4):=by kernel_rfl
 obtain ⟨i,hi,h⟩:=Option.map_eq_some_iff.1 hi0
 simp only [Prod.mk.injEq] at h
 obtain ⟨h1,h2,h3⟩:=h
 obtain ⟨v',w',hr,k2,k3,k4,k5⟩:=run_append_own_at (P:=Tryz.prog) W B 36 ty 37 i (.int .i32 0) 1 4 Tryz.underlying36 hi h1 h2 h3 rfl (by omega) v n (nv .i32 xs) hown ⟨g,0,none⟩ 1 1 [.int .i32 z] rfl (fun j u hj=>by
  rw [zbo,Nat.zero_add,RG.cell j]
  simpa using hj) (fun u hu=>by simp at hu; subst hu; rfl) (by unfold maxLen; omega) (by omega) hB
 refine ⟨v',w',hr,by unfold nv at k2 ⊢; rwa [List.map_append],(Below.refl B W).grown k3 hB (fun k hk=>(zbc hown hk).1),fun b cs t R ht=>(k3.block b R.lt ?_).trans R⟩
 intro e
 obtain ⟨cs2,h⟩:=zbg hown e.symm
 have h2:=h.symm.trans R
 simp at h2
 exact ht h2.2.symm
set_option maxHeartbeats 8000000 in
set_option maxRecDepth 100000 in
theorem zfv (first:Int) (vl:Value) (long:List Int) (hf:-32768≤first∧first≤32767) (hb:∀ n ∈ long,0≤n∧n≤255) (hlen:long.length≤9223372036854775807) (w:World) (hN:NsAt .u8 w vl long) :
  Calls Tryz.prog 30 #[.int .i16 first,vl] w fun e w'=>∃ v,e = .returned (.agg #[v,.int .i32 (Sc.dayAt first long (min long.length 12) + 31)])∧w'.ownsRow w.heap.size 37 1 v (min long.length 12 + 1) (nv .i32 (Sc.mkStarts first long (min long.length 12)))∧Below w.heap.size w w':=by
 obtain ⟨pl,cl,rfl,hc⟩:=hN
 have HC:=hdq hc
 have HF:=hdq (And.intro hf hlen)
 have HBY:=hdq hb
 have e0:IntKind.i32.wrap first = first:=by rw [IntKind.wrap_i32]; omega
 clear hc hf hb hlen
 go_enter Tryz.func30,Tryz.ntmps30
 go_wp2_with fail
 have R0:=Row.new w #[.slice none 0 0,.int .i32 0] 39
 have B0:=zaa (Below.refl _ w) (.cells #[.slice none 0 0,.int .i32 0] 39)
 have hz1:(w.alloc (.cells #[.slice none 0 0,.int .i32 0] 39)).heap.size = w.heap.size + 1:=by simp
 generalize w.alloc (.cells #[.slice none 0 0,.int .i32 0] 39) = wa at *
 have R1:=Row.new' wa #[.int .i32 first] 37 hz1.symm
 have B1:=zaa B0 (.cells #[.int .i32 first] 37)
 have R01:=R0.alloc (.cells #[.int .i32 first] 37)
 have hz2:(wa.alloc (.cells #[.int .i32 first] 37)).heap.size = w.heap.size + 1 + 1:=by simp [hz1]
 generalize wa.alloc (.cells #[.int .i32 first] 37) = wb at *
 have R2:=Row.new' wb #[.slice (some ⟨w.heap.size + 1,0,none⟩) 1 1,.int .i32 0] 39 hz2.symm
 have B2:=zaa B1 (.cells #[.slice (some ⟨w.heap.size + 1,0,none⟩) 1 1,.int .i32 0] 39)
 have R02:=R01.alloc (.cells #[.slice (some ⟨w.heap.size + 1,0,none⟩) 1 1,.int .i32 0] 39)
 have R12:=R1.alloc (.cells #[.slice (some ⟨w.heap.size + 1,0,none⟩) 1 1,.int .i32 0] 39)
 generalize wb.alloc (.cells #[.slice (some ⟨w.heap.size + 1,0,none⟩) 1 1,.int .i32 0] 39) = wc at *
 obtain ⟨gr,hgr⟩:∃ g,g = w.heap.size:=⟨_,rfl⟩
 obtain ⟨gc,hgc⟩:∃ g,g = w.heap.size + 1 + 1:=⟨_,rfl⟩
 have HG:=hdq (And.intro hgr hgc)
 rw [← hgr] at R02
 rw [← hgc] at R2
 rw [← hgc,← hgr]
 have hown:wc.ownsRow w.heap.size 37 1 (.slice (some ⟨w.heap.size + 1,0,none⟩) 1 1) (0 + 1) (nv .i32 (Sc.mkStarts first long 0)):=⟨rfl,.inr ⟨_,1,_,rfl,by omega,R12,Nat.le_refl _,by unfold maxLen; omega,rfl,rfl⟩⟩
 have HOWN:=hdq hown
 have HRC:=hdq R2
 have HRR:=hdq R02
 have HBB:=hdq B2
 clear R0 B0 hz1 R1 B1 R01 hz2 R2 B2 R02 R12 hgr hgc hown
 go_loopw [5,16] (fun dv iv wr=>∃ (k:Nat) (v:Value),k≤min long.length 12∧iv = .int .i64 (k:Int)∧dv = .int .i32 (Sc.dayAt first long k)∧wr.ownsRow w.heap.size 37 1 v (k + 1) (nv .i32 (Sc.mkStarts first long k))∧Row wr gc #[v,.int .i32 0] 39∧Row wr gr #[.slice none 0 0,.int .i32 0] 39∧Below w.heap.size w wr) (fun _ iv _=>long.length - (intOf iv).toNat)
 case atStart=>exact ⟨0,_,by omega,rfl,rfl,HOWN.out,HRC.out,HRR.out,HBB.out⟩
 case round =>
  obtain ⟨k,v,hk,rfl,rfl,hown,RC,RR,BB⟩:=hrel
  have HOW2:=hdq hown
  have HRC2:=hdq RC
  have HRR2:=hdq RR
  have HB2:=hdq BB
  have hd:=Sc.dayAt_bd first long HF.out.1 k
  have hf:=HF.out.1
  have c0:wr.cell? ⟨gc,0,none⟩ = some v:=RC.cell 0
  clear hown RC RR BB
  have fin:k = min long.length 12→∀ u,u = Sc.dayAt first long k→True:=fun _ _ _=>trivial
  by_cases hlt:k < long.length
  ·have i0:(0:Int)≤(k:Int):=by omega
   have i1:(k:Int) < (long.length:Int):=by omega
   obtain ⟨b,off,rfl,hcc⟩:∃ b off,pl = some ⟨b,off,none⟩∧∀ i,i < long.length→w.cell? ⟨b,off + i,none⟩ = some (.int .u8 (long.getD i 0)):=by
    rcases HC.out with h | h
    ·rw [h] at hlt; simp at hlt
    ·exact h
   have ck:=zae (hcc k hlt) HB2.out
   have hn:=HBY.out (long.getD k 0) (zay hlt)
   by_cases h12:k < 12
   ·have hq:((k:Int) == 12) = false:=beq_eq_false_iff_ne.2 (by omega)
    have hst:Sc.dayAt first long (k + 1) = Sc.dayAt first long k + (1 + long.getD k 0 % 40):=rfl
    have HST:=hdq hst
    have hms:=Sc.mkStarts_succ first long k
    rw [hst] at hms
    have HMS:=hdq hms
    obtain ⟨n,hnn⟩:∃ n,n = long.getD k 0:=⟨_,rfl⟩
    rw [← hnn] at ck hn HST HMS
    obtain ⟨d,hdd⟩:∃ d,d = Sc.dayAt first long k:=⟨_,rfl⟩
    rw [← hdd] at hd HST HMS ⊢
    have hmd:0≤n % 40∧n % 40 < 40:=by omega
    have m0:n.tmod 40 = n % 40:=Int.tmod_eq_emod_of_nonneg hn.1
    have HI:=hdq (And.intro hlt h12)
    clear hcc hst hms hnn hdd fin
    generalize n % 40 = m at *
    have e1:IntKind.u8.wrap m = m:=by rw [IntKind.wrap_u8]; omega
    have e2:IntKind.i32.wrap m = m:=by rw [IntKind.wrap_i32]; omega
    have e3:IntKind.i32.wrap (1 + m) = 1 + m:=by rw [IntKind.wrap_i32]; omega
    have e4:IntKind.i32.wrap (d + (1 + m)) = d + (1 + m):=by rw [IntKind.wrap_i32]; omega
    have e5:IntKind.i64.wrap ((k:Int) + 1) = (k:Int) + 1:=by rw [IntKind.wrap_i64]; omega
    obtain ⟨v6,w6,hr6,ho6,hb6,hk6⟩:=zld (wr.alloc (.cells #[.int .i32 (d + (1 + m))] 37)) w.heap.size 36 v (k + 1) (Sc.mkStarts first long k) (zan HOW2.out _) wr.heap.size (d + (1 + m)) (Row.new wr _ _) (by omega) (by have:=HB2.out.size; simp; omega)
    obtain ⟨p6,c6,rfl⟩:=zaj ho6
    have RC6:=hk6 gc _ _ (HRC2.out.alloc _) (by show ¬ (39:Nat) = 37; omega)
    have RR6:=hk6 gr _ _ (HRR2.out.alloc _) (by show ¬ (39:Nat) = 37; omega)
    have f0:w6.cell? ⟨gc,0,none⟩ = some v:=RC6.cell 0
    have z0:w6.frozen? ⟨gc,0,none⟩ = false:=RC6.frozen 0
    have hne:gr ≠ gc:=by have:=HG.out; omega
    have HRC7:Hid (Row (w6.setCell ⟨gc,0,none⟩ (.slice p6 (k + 1 + 1) c6)) gc #[.slice p6 (k + 1 + 1) c6,.int .i32 0] 39):=hdq (RC6.set 0 (.slice p6 (k + 1 + 1) c6))
    have HRR7:Hid (Row (w6.setCell ⟨gc,0,none⟩ (.slice p6 (k + 1 + 1) c6)) gr #[.slice none 0 0,.int .i32 0] 39):=hdq (RR6.other ⟨gc,0,none⟩ hne (.slice p6 (k + 1 + 1) c6))
    have hnc:(Value.slice p6 (k + 1 + 1) c6).ownBlock ≠ some gc:=fun e=>by
     obtain ⟨cs2,h⟩:=zbg ho6 e
     have h2:=h.symm.trans RC6
     simp at h2
    have HO7:=hdq (zak ho6 (zaf w6 gc 0 (.slice p6 (k + 1 + 1) c6)) hnc)
    have HB7:=hdq ((zaf w6 gc 0 (.slice p6 (k + 1 + 1) c6)).below ((zaa HB2.out (.cells #[.int .i32 (d + (1 + m))] 37)).trans hb6) (show w.heap.size≤gc by have:=HG.out; omega))
    have HR6:=hdq hr6
    clear hr6 ho6 hb6 hk6 RC6 RR6 hne hnc hmd hlt hk hd hf
    go_wp2_with (first | (at_builtin; refine zbn rfl (zao _ _ _ _ rfl rfl rfl HR6.out) ?_))
    refine ⟨⟨k + 1,.slice p6 (k + 1 + 1) c6,by have:=HI.out; omega,by simp,by rw [HST.out],by rw [HMS.out]; exact HO7.out,HRC7.out,HRR7.out,HB7.out⟩,by have:=HI.out; simp [intOf]; omega⟩
   ·have h12e:k = 12:=by omega
    have hq:((k:Int) == 12) = true:=by rw [h12e]; rfl
    have hkm:k = min long.length 12:=by omega
    obtain ⟨pv,cv,rfl⟩:=zaj HOW2.out
    have hN:=(NsAt.of_own HOW2.out).1
    rw [hkm] at hN hd
    have HN:=hdq hN
    have e6:IntKind.i32.wrap (Sc.dayAt first long k + 31) = Sc.dayAt first long k + 31:=by rw [IntKind.wrap_i32,hkm]; omega
    have f1:wr.cell? ⟨gc,1,none⟩ = some (.int .i32 0):=HRC2.out.cell 1
    have z1:wr.frozen? ⟨gc,1,none⟩ = false:=HRC2.out.frozen 1
    have hne:gr ≠ gc:=by have:=HG.out; omega
    have RS:Row (wr.setCell ⟨gc,1,none⟩ (.int .i32 (Sc.dayAt first long k + 31))) gc #[.slice pv (k + 1) cv,.int .i32 (Sc.dayAt first long k + 31)] 39:=HRC2.out.set 1 _
    have RRS:=HRR2.out.other ⟨gc,1,none⟩ hne (.int .i32 (Sc.dayAt first long k + 31))
    have HBS:=hdq ((zaf wr gc 1 (.int .i32 (Sc.dayAt first long k + 31))).below HB2.out (show w.heap.size≤gc by have:=HG.out; omega))
    have HNS:=hdq (zak HOW2.out (zaf wr gc 1 (.int .i32 (Sc.dayAt first long k + 31))) (fun e=>by
     obtain ⟨cs2,h⟩:=zbg HOW2.out e
     have h2:=h.symm.trans HRC2.out
     simp at h2))
    have HRS:=hdq RRS
    have HKM:=hdq hkm
    have t1:(Tryz.prog.info? 39).map (·.size) = some (#[Value.slice pv (k + 1) cv,.int .i32 (Sc.dayAt first long k + 31)]).size:=by kernel_rfl
    have t2:(#[Value.slice pv (k + 1) cv,.int .i32 (Sc.dayAt first long k + 31)]).all (·.oneCell') = true:=by kernel_rfl
    clear hN hd hf hkm hne RRS hlt hk h12 h12e hn hcc fin
    go_wp2_with (first
     | (refine zaq rfl rfl 39 (Operand.tmp 6) rfl gc rfl RS _ Tryz.underlying39 rfl (by kernel_rfl) ?_)
     | (refine zad rfl 39 (Operand.tmp 4) (Operand.tmp 39) rfl gr #[.slice pv (k + 1) cv,.int .i32 (Sc.dayAt first long k + 31)] rfl rfl HRS.out t1 rfl t2 rfl ?_; intro w9 RZ S9))
    have hgr2:gr ≠ gc:=by have:=HG.out; omega
    have hno:(Value.slice pv (k + 1) cv).ownBlock ≠ some gr:=fun e=>by
     obtain ⟨cs2,h⟩:=zbg HNS.out e
     have h2:=h.symm.trans HRS.out
     simp at h2
    refine bodyPost_ret (v:=.agg #[.slice pv (k + 1) cv,.int .i32 (Sc.dayAt first long k + 31)]) (zau rfl _ _ RZ rfl Tryz.underlying39 rfl (by kernel_rfl)) rfl ⟨.slice pv (k + 1) cv,?_,?_,S9.below HBS.out (by have:=HG.out; omega)⟩
    ·rw [HKM.out]
    ·have h9:=zak HNS.out S9 hno
     rw [HKM.out] at h9 ⊢
     exact h9
  ·have i1:¬ (k:Int) < (long.length:Int):=by omega
   have hkm:k = min long.length 12:=by omega
   obtain ⟨pv,cv,rfl⟩:=zaj HOW2.out
   have hN:=(NsAt.of_own HOW2.out).1
   rw [hkm] at hN hd
   have HN:=hdq hN
   have e6:IntKind.i32.wrap (Sc.dayAt first long k + 31) = Sc.dayAt first long k + 31:=by rw [IntKind.wrap_i32,hkm]; omega
   have f1:wr.cell? ⟨gc,1,none⟩ = some (.int .i32 0):=HRC2.out.cell 1
   have z1:wr.frozen? ⟨gc,1,none⟩ = false:=HRC2.out.frozen 1
   have hne:gr ≠ gc:=by have:=HG.out; omega
   have RS:Row (wr.setCell ⟨gc,1,none⟩ (.int .i32 (Sc.dayAt first long k + 31))) gc #[.slice pv (k + 1) cv,.int .i32 (Sc.dayAt first long k + 31)] 39:=HRC2.out.set 1 _
   have RRS:=HRR2.out.other ⟨gc,1,none⟩ hne (.int .i32 (Sc.dayAt first long k + 31))
   have HBS:=hdq ((zaf wr gc 1 (.int .i32 (Sc.dayAt first long k + 31))).below HB2.out (show w.heap.size≤gc by have:=HG.out; omega))
   have HNS:=hdq (zak HOW2.out (zaf wr gc 1 (.int .i32 (Sc.dayAt first long k + 31))) (fun e=>by
    obtain ⟨cs2,h⟩:=zbg HOW2.out e
    have h2:=h.symm.trans HRC2.out
    simp at h2))
   have HRS:=hdq RRS
   have HKM:=hdq hkm
   have t1:(Tryz.prog.info? 39).map (·.size) = some (#[Value.slice pv (k + 1) cv,.int .i32 (Sc.dayAt first long k + 31)]).size:=by kernel_rfl
   have t2:(#[Value.slice pv (k + 1) cv,.int .i32 (Sc.dayAt first long k + 31)]).all (·.oneCell') = true:=by kernel_rfl
   clear hN hd hf hkm hne RRS hlt hk fin
   go_wp2_with (first
    | (refine zaq rfl rfl 39 (Operand.tmp 6) rfl gc rfl RS _ Tryz.underlying39 rfl (by kernel_rfl) ?_)
    | (refine zad rfl 39 (Operand.tmp 4) (Operand.tmp 39) rfl gr #[.slice pv (k + 1) cv,.int .i32 (Sc.dayAt first long k + 31)] rfl rfl HRS.out t1 rfl t2 rfl ?_; intro w9 RZ S9))
   have hgr2:gr ≠ gc:=by have:=HG.out; omega
   have hno:(Value.slice pv (k + 1) cv).ownBlock ≠ some gr:=fun e=>by
    obtain ⟨cs2,h⟩:=zbg HNS.out e
    have h2:=h.symm.trans HRS.out
    simp at h2
   refine bodyPost_ret (v:=.agg #[.slice pv (k + 1) cv,.int .i32 (Sc.dayAt first long k + 31)]) (zau rfl _ _ RZ rfl Tryz.underlying39 rfl (by kernel_rfl)) rfl ⟨.slice pv (k + 1) cv,?_,?_,S9.below HBS.out (by have:=HG.out; omega)⟩
   ·rw [HKM.out]
   ·have h9:=zak HNS.out S9 hno
    rw [HKM.out] at h9 ⊢
    exact h9
end Go.Proofs.YtlpdfglbdijkoaaGreatDoor