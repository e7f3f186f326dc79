/-
  Own texts, several in one (QuietS, Ns, SearchN, Cal).
-/
import Derived.Test.YtlpdfglbdijkoaaGreatDoorMrg4
import Derived.BigQuiet
import Derived.Test.YtlpdfglbdijkoaaGreatDoorMrg8
namespace Go.Proofs.YtlpdfglbdijkoaaGreatDoor
open Go.RowKit
set_option linter.unusedVariables false
set_option linter.unusedSimpArgs false
structure QW (S:World→Prop) where
 w:World
 h:S w
theorem zbj {P:Program} {id:Nat} {Q:Exit→Act→World→Prop} {a:Act} {w:World} {l:List Oper} (S:World→Prop) (hm:P.follows .mixedOrders = true) (hB:Region.lexB .any l.toArray = true) (hS:S w.drew)
  (h:Nonempty (QW S)→wpQuiet P l.toArray (fun w'=>∃ n:QW S,w' = n.w) (fun a'=>∀ w',(∃ n:QW S,w' = n.w)→Q .normal a' w') l a):(Code.region id l.toArray true).wp P Q a w :=
 wp_region_quiet (C:=fun w'=>∃ n:QW S,w' = n.w) hm hB ⟨⟨_,hS⟩,rfl⟩ (by simpa using h ⟨⟨_,hS⟩⟩)
def nv (k:IntKind) (l:List Int):List Value:=l.map (.int k)
def NsAt (k:IntKind) (w:World) (v:Value) (l:List Int):Prop:=∃ p cap,v = .slice p l.length cap∧(l = []∨∃ b off,p = some ⟨b,off,none⟩∧∀ i,i < l.length→w.cell? ⟨b,off + i,none⟩ = some (.int k (l.getD i 0)))
theorem NsAt.below {k:IntKind} {w w':World} {v:Value} {l:List Int} (h:NsAt k w v l) (hb:Below w.heap.size w w'):NsAt k w' v l:=by
 obtain ⟨p,cap,e,h⟩:=h
 refine ⟨p,cap,e,?_⟩
 rcases h with h | ⟨b,off,e2,h⟩
 ·exact .inl h
 ·exact .inr ⟨b,off,e2,fun i hi=>zae (h i hi) hb⟩
theorem NsAt.of_own {k:IntKind} {w:World} {B n:Nat} {e:TypeId} {v:Value} {l:List Int} (h:w.ownsRow B e 1 v n (nv k l)):NsAt k w v l∧l.length = n:=by
 obtain ⟨h1,h2⟩:=h
 have hl:l.length = n:=by simpa [nv] using h1
 refine ⟨?_,hl⟩
 rcases h2 with ⟨rfl,rfl⟩ | ⟨g,cap,cur,rfl,_,hh,_,_,hs,ht⟩
 ·exact ⟨none,0,by rw [hl],.inl (List.length_eq_zero_iff.1 hl)⟩
 ·refine ⟨_,cap,by rw [hl],.inr ⟨g,0,rfl,fun i hi=>?_⟩⟩
  rw [cell_of_row w g (0 + i) cur e _ hh,Nat.zero_add]
  have e1:(nv k l)[i]? = some (.int k (l.getD i 0)):=by
   unfold nv
   rw [List.getElem?_map,List.getElem?_eq_getElem hi]
   simp [List.getD_eq_getElem?_getD,hi]
  rw [← ht,Nat.mul_one,List.getElem?_take,if_pos (by omega)] at e1
  simpa using e1
theorem NsAt.of_row {k:IntKind} {w:World} {g cap:Nat} {t:TypeId} {l:List Int} (R:Row w g (nv k l).toArray t):NsAt k w (.slice (some ⟨g,0,none⟩) l.length cap) l:=by
 refine ⟨_,cap,rfl,.inr ⟨g,0,rfl,fun i hi=>?_⟩⟩
 rw [Nat.zero_add,R.cell i]
 unfold nv
 simp [List.getElem?_map,List.getD_eq_getElem?_getD,hi]
def PosN (l:List Int) (x:Int) (i:Nat):Prop:=i≤l.length∧(∀ t,t < i→l.getD t 0 < x)∧∀ t,i≤t→t < l.length→x≤l.getD t 0
def NRise (l:List Int):Prop:=∀ i j,i < j→j < l.length→l.getD i 0 < l.getD j 0
theorem zkg (l:List Int) (x:Int) (hr:NRise l):∃ i,PosN l x i:=by
 have go:∀ (m k:Nat),k + m = l.length→(∀ t,t < k→l.getD t 0 < x)→∃ i,PosN l x i:=fun m=>by
  induction m with
  | zero=>exact fun k hk h=>⟨k,by omega,h,fun t h1 h2=>by omega⟩
  | succ m ih =>
   intro k hk h
   by_cases c:l.getD k 0 < x
   ·exact ih (k + 1) (by omega) (fun t ht=>by
     by_cases e:t = k
     ·rw [e]; exact c
     ·exact h t (by omega))
   ·exact ⟨k,by omega,h,fun t h1 h2=>by
     by_cases e:t = k
     ·rw [e]; omega
     ·have:=hr k t (by omega) h2
      omega⟩
 exact go l.length 0 (by omega) (fun t ht=>by omega)
theorem zuq (x:Int) (w:World):Calls Tryz.prog 169 #[.int .u16 x] w fun e w'=>e = .returned (.bool false)∧w' = w:=by
 go_enter Tryz.func169,Tryz.ntmps169
 go_wp2
 go_ret
 exact ⟨rfl,rfl⟩
theorem zsy (x:Int) (w:World):Calls Tryz.prog 132 #[.int .u16 x] w fun e w'=>e = .returned (.bool false)∧w' = w:=by
 go_enter Tryz.func132,Tryz.ntmps132
 go_wp2
 go_ret
 exact ⟨rfl,rfl⟩
theorem zjp (x y:Int) (w:World):Calls Tryz.prog 126 #[.int .u16 x,.int .u16 y] w fun e w'=>e = .returned (.bool (decide (x < y)))∧w' = w:=by
 go_enter Tryz.func126,Tryz.ntmps126
 go_wp2_with fail
 refine (zuq x w).mono ?_
 rintro _ _ ⟨rfl,rfl⟩
 go_wp2_with fail
 go_ret
 exact ⟨rfl,rfl⟩
set_option maxHeartbeats 1000000 in
set_option maxRecDepth 100000 in
theorem zgj (v:Value) (l:List Int) (x:Int) (i:Nat) (w:World) (hN:NsAt .u16 w v l) (hl:l.length≤1000000) (hp:PosN l x i) :
  Calls Tryz.prog 91 #[v,.int .u16 x] w fun e w'=>e = .returned (.tuple #[.int .i64 (i:Int),.bool (decide (i < l.length) && decide (l.getD i 0 = x))])∧Below w.heap.size w w':=by
 obtain ⟨a,cap,rfl,hE⟩:=hN
 have HE:=hdq hE
 have HL:=hdq hl
 have HP:=hdq hp
 clear hE hl hp
 go_enter Tryz.func91,Tryz.ntmps91
 go_wp2_with fail
 go_loopw [7,8] (fun iv jv wr=>∃ p q:Nat,iv = .int .i64 (p:Int)∧jv = .int .i64 (q:Int)∧p≤i∧i≤q∧q≤l.length∧Below w.heap.size w wr) (fun iv jv _=>(intOf jv).toNat - (intOf iv).toNat)
 case atStart=>exact ⟨0,l.length,rfl,rfl,by omega,HP.out.1,by omega,Below.refl _ _⟩
 case round =>
  obtain ⟨p,q,rfl,rfl,h1,h2,h3,BB⟩:=hrel
  have HBB:=hdq BB
  clear BB
  by_cases hpq:p < q
  ·have hpqi:(p:Int) < (q:Int):=by omega
   have HH:=hdq (And.intro h1 (And.intro h2 (And.intro h3 hpq)))
   obtain ⟨h,hh⟩:∃ h,h = (p + q) / 2:=⟨_,rfl⟩
   have e0:IntKind.i64.wrap ((p:Int) + (q:Int)) = (p:Int) + (q:Int):=by have:=HL.out; rw [IntKind.wrap_i64]; omega
   have e1:IntKind.u64.wrap ((p:Int) + (q:Int)) = (p:Int) + (q:Int):=by have:=HL.out; rw [IntKind.wrap_u64]; omega
   have e2:((p:Int) + (q:Int)) / 2 = (h:Int):=by omega
   have e3:IntKind.i64.wrap (h:Int) = (h:Int):=by have:=HL.out; rw [IntKind.wrap_i64]; omega
   have hlt:h < l.length:=by omega
   have hk1:(0:Int)≤(h:Int):=by omega
   have hk2:(h:Int) < (l.length:Int):=by omega
   have HQ:=hdq (And.intro hh hlt)
   obtain ⟨bl,off,rfl,hcells⟩:∃ b off,a = some ⟨b,off,none⟩∧∀ i,i < l.length→w.cell? ⟨b,off + i,none⟩ = some (.int .u16 (l.getD i 0)):=by
    rcases HE.out with h | h
    ·exact absurd hlt (by rw [h]; simp)
    ·exact h
   have HLT:=hdq (HP.out.2.1 h)
   have HGE:=hdq (fun hi=>HP.out.2.2 h hi hlt)
   have c0:=zae (hcells h hlt) HBB.out
   generalize l.getD h 0 = y at *
   clear h1 h2 h3 hpq hh hlt hcells
   go_wp2_with fail
   refine (zjp y x wr).mono ?_
   rintro _ _ ⟨rfl,rfl⟩
   by_cases hc:y < x
   ·have hi:h < i:=by
     by_cases c:h < i
     ·exact c
     ·have:=HGE.out (by omega)
      omega
    rw [decide_eq_true hc]
    have ev:IntKind.i64.wrap ((h:Int) + 1) = ((h + 1:Nat):Int):=by have:=HL.out; have:=HQ.out; rw [IntKind.wrap_i64]; omega
    clear hc
    go_wp2_with fail
    have:=HH.out
    have:=HQ.out
    exact ⟨⟨h + 1,q,by push_cast; rfl,rfl,by omega,by omega,by omega,HBB.out⟩,by simp [intOf]; omega⟩
   ·have hi:i≤h:=by
     by_cases c:i≤h
     ·exact c
     ·exact absurd (HLT.out (by omega)) hc
    rw [decide_eq_false hc]
    clear hc
    go_wp2_with fail
    have:=HH.out
    have:=HQ.out
    exact ⟨⟨p,h,rfl,rfl,by omega,by omega,by omega,HBB.out⟩,by simp [intOf]; omega⟩
  ·obtain rfl:p = i:=by omega
   obtain rfl:q = p:=by omega
   have hqq:¬ ((q:Int) < (q:Int)):=by omega
   by_cases hlt:q < l.length
   ·have hk1:(0:Int)≤(q:Int):=by omega
    have hk2:(q:Int) < (l.length:Int):=by omega
    obtain ⟨bl,off,rfl,hcells⟩:∃ b off,a = some ⟨b,off,none⟩∧∀ i,i < l.length→w.cell? ⟨b,off + i,none⟩ = some (.int .u16 (l.getD i 0)):=by
     rcases HE.out with h | h
     ·exact absurd hlt (by rw [h]; simp)
     ·exact h
    have c0:=zae (hcells q hlt) HBB.out
    have HQL:=hdq hlt
    obtain ⟨y,hy⟩:∃ y,y = l.getD q 0:=⟨_,rfl⟩
    rw [← hy] at c0
    have HY:=hdq hy
    clear h1 h2 h3 hpq hlt hcells hy
    by_cases hxy:y = x
    ·have hb:(y == x) = true:=by rw [beq_iff_eq]; exact hxy
     have HXY:=hdq hxy
     clear hxy
     go_wp2_with fail
     refine bodyPost_ret (v:=.tuple #[.int .i64 (q:Int),.bool true]) (by simp [results,Tryz.results91,go_sem]) rfl ⟨?_,HBB.out⟩
     show Ending.returned _ = Ending.returned (.tuple #[.int .i64 (q:Int),.bool (decide (q < l.length) && decide (l.getD q 0 = x))])
     rw [decide_eq_true HQL.out,← HY.out,decide_eq_true HXY.out]
     rfl
    ·have hb:(y == x) = false:=by rw [beq_eq_false_iff_ne]; exact hxy
     have HXY:=hdq hxy
     clear hxy
     go_wp2_with fail
     refine (zsy y wr).mono ?_
     rintro _ _ ⟨rfl,rfl⟩
     go_wp2_with fail
     refine bodyPost_ret (v:=.tuple #[.int .i64 (q:Int),.bool false]) (by simp [results,Tryz.results91,go_sem]) rfl ⟨?_,HBB.out⟩
     show Ending.returned _ = Ending.returned (.tuple #[.int .i64 (q:Int),.bool (decide (q < l.length) && decide (l.getD q 0 = x))])
     rw [← HY.out,decide_eq_false HXY.out,Bool.and_false]
   ·have hk2:¬ (q:Int) < (l.length:Int):=by omega
    have HQL:=hdq hlt
    clear hlt
    go_wp2_with fail
    refine bodyPost_ret (v:=.tuple #[.int .i64 (q:Int),.bool false]) (by simp [results,Tryz.results91,go_sem]) rfl ⟨?_,HBB.out⟩
    rw [decide_eq_false HQL.out,Bool.false_and]
theorem zur (x:Int) (w:World):Calls Tryz.prog 139 #[.int .i32 x] w fun e w'=>e = .returned (.bool false)∧w' = w:=by
 go_enter Tryz.func139,Tryz.ntmps139
 go_wp2
 go_ret
 exact ⟨rfl,rfl⟩
theorem zsz (x:Int) (w:World):Calls Tryz.prog 99 #[.int .i32 x] w fun e w'=>e = .returned (.bool false)∧w' = w:=by
 go_enter Tryz.func99,Tryz.ntmps99
 go_wp2
 go_ret
 exact ⟨rfl,rfl⟩
theorem zsd (x y:Int) (w:World):Calls Tryz.prog 98 #[.int .i32 x,.int .i32 y] w fun e w'=>e = .returned (.bool (decide (x < y)))∧w' = w:=by
 go_enter Tryz.func98,Tryz.ntmps98
 go_wp2_with fail
 refine (zur x w).mono ?_
 rintro _ _ ⟨rfl,rfl⟩
 go_wp2_with fail
 go_ret
 exact ⟨rfl,rfl⟩
set_option maxHeartbeats 1000000 in
set_option maxRecDepth 100000 in
theorem zni (v:Value) (l:List Int) (x:Int) (i:Nat) (w:World) (hN:NsAt .i32 w v l) (hl:l.length≤1000000) (hp:PosN l x i) :
  Calls Tryz.prog 60 #[v,.int .i32 x] w fun e w'=>e = .returned (.tuple #[.int .i64 (i:Int),.bool (decide (i < l.length) && decide (l.getD i 0 = x))])∧Below w.heap.size w w':=by
 obtain ⟨a,cap,rfl,hE⟩:=hN
 have HE:=hdq hE
 have HL:=hdq hl
 have HP:=hdq hp
 clear hE hl hp
 go_enter Tryz.func60,Tryz.ntmps60
 go_wp2_with fail
 go_loopw [7,8] (fun iv jv wr=>∃ p q:Nat,iv = .int .i64 (p:Int)∧jv = .int .i64 (q:Int)∧p≤i∧i≤q∧q≤l.length∧Below w.heap.size w wr) (fun iv jv _=>(intOf jv).toNat - (intOf iv).toNat)
 case atStart=>exact ⟨0,l.length,rfl,rfl,by omega,HP.out.1,by omega,Below.refl _ _⟩
 case round =>
  obtain ⟨p,q,rfl,rfl,h1,h2,h3,BB⟩:=hrel
  have HBB:=hdq BB
  clear BB
  by_cases hpq:p < q
  ·have hpqi:(p:Int) < (q:Int):=by omega
   have HH:=hdq (And.intro h1 (And.intro h2 (And.intro h3 hpq)))
   obtain ⟨h,hh⟩:∃ h,h = (p + q) / 2:=⟨_,rfl⟩
   have e0:IntKind.i64.wrap ((p:Int) + (q:Int)) = (p:Int) + (q:Int):=by have:=HL.out; rw [IntKind.wrap_i64]; omega
   have e1:IntKind.u64.wrap ((p:Int) + (q:Int)) = (p:Int) + (q:Int):=by have:=HL.out; rw [IntKind.wrap_u64]; omega
   have e2:((p:Int) + (q:Int)) / 2 = (h:Int):=by omega
   have e3:IntKind.i64.wrap (h:Int) = (h:Int):=by have:=HL.out; rw [IntKind.wrap_i64]; omega
   have hlt:h < l.length:=by omega
   have hk1:(0:Int)≤(h:Int):=by omega
   have hk2:(h:Int) < (l.length:Int):=by omega
   have HQ:=hdq (And.intro hh hlt)
   obtain ⟨bl,off,rfl,hcells⟩:∃ b off,a = some ⟨b,off,none⟩∧∀ i,i < l.length→w.cell? ⟨b,off + i,none⟩ = some (.int .i32 (l.getD i 0)):=by
    rcases HE.out with h | h
    ·exact absurd hlt (by rw [h]; simp)
    ·exact h
   have HLT:=hdq (HP.out.2.1 h)
   have HGE:=hdq (fun hi=>HP.out.2.2 h hi hlt)
   have c0:=zae (hcells h hlt) HBB.out
   generalize l.getD h 0 = y at *
   clear h1 h2 h3 hpq hh hlt hcells
   go_wp2_with fail
   refine (zsd y x wr).mono ?_
   rintro _ _ ⟨rfl,rfl⟩
   by_cases hc:y < x
   ·have hi:h < i:=by
     by_cases c:h < i
     ·exact c
     ·have:=HGE.out (by omega)
      omega
    rw [decide_eq_true hc]
    have ev:IntKind.i64.wrap ((h:Int) + 1) = ((h + 1:Nat):Int):=by have:=HL.out; have:=HQ.out; rw [IntKind.wrap_i64]; omega
    clear hc
    go_wp2_with fail
    have:=HH.out
    have:=HQ.out
    exact ⟨⟨h + 1,q,by push_cast; rfl,rfl,by omega,by omega,by omega,HBB.out⟩,by simp [intOf]; omega⟩
   ·have hi:i≤h:=by
     by_cases c:i≤h
     ·exact c
     ·exact absurd (HLT.out (by omega)) hc
    rw [decide_eq_false hc]
    clear hc
    go_wp2_with fail
    have:=HH.out
    have:=HQ.out
    exact ⟨⟨p,h,rfl,rfl,by omega,by omega,by omega,HBB.out⟩,by simp [intOf]; omega⟩
  ·obtain rfl:p = i:=by omega
   obtain rfl:q = p:=by omega
   have hqq:¬ ((q:Int) < (q:Int)):=by omega
   by_cases hlt:q < l.length
   ·have hk1:(0:Int)≤(q:Int):=by omega
    have hk2:(q:Int) < (l.length:Int):=by omega
    obtain ⟨bl,off,rfl,hcells⟩:∃ b off,a = some ⟨b,off,none⟩∧∀ i,i < l.length→w.cell? ⟨b,off + i,none⟩ = some (.int .i32 (l.getD i 0)):=by
     rcases HE.out with h | h
     ·exact absurd hlt (by rw [h]; simp)
     ·exact h
    have c0:=zae (hcells q hlt) HBB.out
    have HQL:=hdq hlt
    obtain ⟨y,hy⟩:∃ y,y = l.getD q 0:=⟨_,rfl⟩
    rw [← hy] at c0
    have HY:=hdq hy
    clear h1 h2 h3 hpq hlt hcells hy
    by_cases hxy:y = x
    ·have hb:(y == x) = true:=by rw [beq_iff_eq]; exact hxy
     have HXY:=hdq hxy
     clear hxy
     go_wp2_with fail
     refine bodyPost_ret (v:=.tuple #[.int .i64 (q:Int),.bool true]) (by simp [results,Tryz.results60,go_sem]) rfl ⟨?_,HBB.out⟩
     show Ending.returned _ = Ending.returned (.tuple #[.int .i64 (q:Int),.bool (decide (q < l.length) && decide (l.getD q 0 = x))])
     rw [decide_eq_true HQL.out,← HY.out,decide_eq_true HXY.out]
     rfl
    ·have hb:(y == x) = false:=by rw [beq_eq_false_iff_ne]; exact hxy
     have HXY:=hdq hxy
     clear hxy
     go_wp2_with fail
     refine (zsz y wr).mono ?_
     rintro _ _ ⟨rfl,rfl⟩
     go_wp2_with fail
     refine bodyPost_ret (v:=.tuple #[.int .i64 (q:Int),.bool false]) (by simp [results,Tryz.results60,go_sem]) rfl ⟨?_,HBB.out⟩
     show Ending.returned _ = Ending.returned (.tuple #[.int .i64 (q:Int),.bool (decide (q < l.length) && decide (l.getD q 0 = x))])
     rw [← HY.out,decide_eq_false HXY.out,Bool.and_false]
   ·have hk2:¬ (q:Int) < (l.length:Int):=by omega
    have HQL:=hdq hlt
    clear hlt
    go_wp2_with fail
    refine bodyPost_ret (v:=.tuple #[.int .i64 (q:Int),.bool false]) (by simp [results,Tryz.results60,go_sem]) rfl ⟨?_,HBB.out⟩
    rw [decide_eq_false HQL.out,Bool.false_and]
def Cal.per (l:List Int) (e d:Int) (i:Nat):Option Nat:=if e≤d then none else if i < l.length∧l.getD i 0 = d then some i else if i = 0 then none else some (i - 1)
def Cal.res:Option Nat→Value
 | some i=>.tuple #[.int .i64 (i:Int),.bool true]
 | none=>.tuple #[.int .i64 0,.bool false]
set_option maxHeartbeats 1000000 in
theorem zet (v:Value) (l:List Int) (e d:Int) (i:Nat) (w:World) (hN:NsAt .i32 w v l) (hl:l.length≤1000000) (hp:PosN l d i) :
  Calls Tryz.prog 33 #[.agg #[v,.int .i32 e],.int .i32 d] w fun r w'=>r = .returned (Cal.res (Cal.per l e d i))∧Below w.heap.size w w':=by
 have e1:Cal.per l e d i = if e≤d then none else if (decide (i < l.length) && decide (l.getD i 0 = d)) = true then some i else if i = 0 then none else some (i - 1):=by
  unfold Cal.per
  congr 1
  by_cases c:i < l.length∧l.getD i 0 = d
  ·rw [if_pos c,if_pos (by rw [decide_eq_true c.1,decide_eq_true c.2]; rfl)]
  ·have hb:(decide (i < l.length) && decide (l.getD i 0 = d)) = false:=by rw [← Bool.decide_and]; exact decide_eq_false c
   rw [if_neg c,hb]
   rfl
 obtain ⟨r,hr⟩:∃ r,r = Cal.per l e d i:=⟨_,rfl⟩
 rw [← hr]
 rw [e1] at hr
 have HB:=hdq (zaa (Below.refl _ w) (.cells #[v,.int .i32 e] 39))
 have R:=Row.new w #[v,.int .i32 e] 39
 have HS:=hdq (zni v l d i _ (hN.below HB.out) hl hp)
 have HL:=hdq (Nat.le_trans hp.1 hl)
 generalize (decide (i < l.length) && decide (l.getD i 0 = d)) = ok at *
 have HR:=hdq hr
 clear hN hl hp e1 hr
 go_enter Tryz.func33,Tryz.ntmps33
 go_wp2_with fail
 refine HS.out.mono ?_
 rintro _ w1 ⟨rfl,hb⟩
 have HBB:=hdq (zab HB.out hb)
 have R1:=R.below hb
 obtain ⟨g,hg⟩:∃ g,g = w.heap.size:=⟨_,rfl⟩
 rw [← hg] at R1 ⊢
 have c1:w1.cell? ⟨g,1,none⟩ = some (.int .i32 e):=R1.cell 1
 clear hb R1 R hg HS
 by_cases hed:e≤d
 ·have HED:=hdq hed
  cases ok with
  | true =>
   have h0:¬ ((i:Int) < 0):=by omega
   go_wp2_with fail
   exact bodyPost_ret (v:=.tuple #[.int .i64 0,.bool false]) (by simp [results,Tryz.results33,go_sem]) rfl ⟨by rw [HR.out,if_pos HED.out]; rfl,HBB.out⟩
  | false =>
   have ew:IntKind.i64.wrap ((i:Int) - 1) = (i:Int) - 1:=by have:=HL.out; rw [IntKind.wrap_i64]; omega
   by_cases hi:i = 0
   ·have h0:(i:Int) - 1 < 0:=by omega
    clear hi
    go_wp2_with fail
    exact bodyPost_ret (v:=.tuple #[.int .i64 0,.bool false]) (by simp [results,Tryz.results33,go_sem]) rfl ⟨by rw [HR.out,if_pos HED.out]; rfl,HBB.out⟩
   ·have h0:¬ ((i:Int) - 1 < 0):=by omega
    clear hi
    go_wp2_with fail
    exact bodyPost_ret (v:=.tuple #[.int .i64 0,.bool false]) (by simp [results,Tryz.results33,go_sem]) rfl ⟨by rw [HR.out,if_pos HED.out]; rfl,HBB.out⟩
 ·have HED:=hdq hed
  cases ok with
  | true =>
   have h0:¬ ((i:Int) < 0):=by omega
   go_wp2_with fail
   exact bodyPost_ret (v:=.tuple #[.int .i64 (i:Int),.bool true]) (by simp [results,Tryz.results33,go_sem]) rfl ⟨by rw [HR.out,if_neg (show ¬ e≤d by have:=HED.out; omega)]; rfl,HBB.out⟩
  | false =>
   have ew:IntKind.i64.wrap ((i:Int) - 1) = (i:Int) - 1:=by have:=HL.out; rw [IntKind.wrap_i64]; omega
   by_cases hi:i = 0
   ·have h0:(i:Int) - 1 < 0:=by omega
    have HI:=hdq hi
    clear hi
    go_wp2_with fail
    exact bodyPost_ret (v:=.tuple #[.int .i64 0,.bool false]) (by simp [results,Tryz.results33,go_sem]) rfl ⟨by rw [HR.out,if_neg (show ¬ e≤d by have:=HED.out; omega),if_neg (by simp),if_pos HI.out]; rfl,HBB.out⟩
   ·have h0:¬ ((i:Int) - 1 < 0):=by omega
    have he:(i:Int) - 1 = ((i - 1:Nat):Int):=by omega
    have HE:=hdq he
    have HI:=hdq hi
    clear hi he
    go_wp2_with fail
    exact bodyPost_ret (v:=.tuple #[.int .i64 ((i:Int) - 1),.bool true]) (by simp [results,Tryz.results33,go_sem]) rfl ⟨by rw [HR.out,if_neg (show ¬ e≤d by have:=HED.out; omega),HE.out,if_neg (by simp),if_neg HI.out]; rfl,HBB.out⟩
theorem zpz (x y:Int) (h:x < y):PosN [x] y 1:=by
 refine ⟨by simp,fun t ht=>?_,fun t h1 h2=>?_⟩
 ·obtain rfl:t = 0:=by omega
  exact h
 ·simp at h2
  omega
theorem make8 (w:World):Calls Tryz.prog 30 #[.int .i16 0,.slice none 0 0] w fun r w'=>∃ v,r = .returned (.agg #[v,.int .i32 31])∧NsAt .i32 w' v [0]∧Below w.heap.size w w':=by
 go_enter Tryz.func30,Tryz.ntmps30
 go_wp2_with fail
 refine wp_loop_rounds 1 ?_
 rw [rounds_succ]
 go_wp2_with fail
 have hB1:=zaa (Below.refl _ w) (.cells #[.slice (some ⟨w.heap.size + 1,0,none⟩) 1 1,.int .i32 31] 39)
 have R1:=Row.new' (w.alloc (.cells #[.slice (some ⟨w.heap.size + 1,0,none⟩) 1 1,.int .i32 31] 39)) #[.int .i32 0] 37 (g:=w.heap.size + 1) (by simp)
 have hN:NsAt .i32 _ (.slice (some ⟨w.heap.size + 1,0,none⟩) 1 1) [0]:=NsAt.of_row (l:=[0]) (R1.alloc (.cells #[.slice (some ⟨w.heap.size + 1,0,none⟩) 1 1,.int .i32 31] 39))
 exact bodyPost_ret (v:=.agg #[.slice (some ⟨w.heap.size + 1,0,none⟩) 1 1,.int .i32 31]) (by simp [results,Tryz.results30,go_sem]) rfl ⟨_,rfl,hN,zaa (zaa hB1 _) _⟩
set_option maxHeartbeats 1000000 in
theorem zsh (h7:∀ w,Glb5 w→Calls Tryz.prog 232 #[] w fun e w'=>e = .returned (.bool true)∧Below w.heap.size w w') (w:World) (hG:Glb5 w):Calls Tryz.prog 220 #[] w fun e w'=>e = .returned (.bool true)∧Below w.heap.size w w':=by
 have HG:=hdq hG
 have H7:=hdq h7
 clear hG h7
 go_enter Tryz.func220,Tryz.ntmps220
 go_wp2_with fail
 refine (make8 w).mono ?_
 rintro _ w1 ⟨v,rfl,hN,hb⟩
 have HB:=hdq hb
 have HP:=hdq (zet v [0] 31 30 1 w1 hN (by show 1≤1000000; omega) (zpz 0 30 (by omega)))
 clear hN hb
 go_wp2_with fail
 refine HP.out.mono ?_
 rintro _ w2 ⟨rfl,hb⟩
 have HB2:=hdq (zab HB.out hb)
 clear hb HP
 rw [show Cal.res (Cal.per [0] 31 30 1) = .tuple #[.int .i64 0,.bool true] from rfl]
 go_wp2_with fail
 refine (make8 w2).mono ?_
 rintro _ w3 ⟨v3,rfl,hN,hb⟩
 have HB3:=hdq (zab HB2.out hb)
 have HP:=hdq (zet v3 [0] 31 31 1 w3 hN (by show 1≤1000000; omega) (zpz 0 31 (by omega)))
 clear hN hb
 go_wp2_with fail
 refine HP.out.mono ?_
 rintro _ w4 ⟨rfl,hb⟩
 have HB4:=hdq (zab HB3.out hb)
 clear hb HP
 rw [show Cal.res (Cal.per [0] 31 31 1) = .tuple #[.int .i64 0,.bool false] from rfl]
 go_wp2_with fail
 refine (H7.out w4 (HG.out.below HB4.out)).mono ?_
 rintro _ w5 ⟨rfl,hb5⟩
 go_wp2
 go_ret
 exact ⟨rfl,zab HB4.out hb5⟩
end Go.Proofs.YtlpdfglbdijkoaaGreatDoor