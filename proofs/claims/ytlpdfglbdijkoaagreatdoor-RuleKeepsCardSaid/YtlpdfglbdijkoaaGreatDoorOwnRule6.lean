/-
  Own texts, several in one (Rule6, Near, Near0, Near2).
-/
import Derived.Test.YtlpdfglbdijkoaaGreatDoorOwnRule2
import Derived.Test.YtlpdfglbdijkoaaGreatDoorMrg27
import Derived.Test.YtlpdfglbdijkoaaGreatDoorOwnLine10
namespace Go.Proofs.YtlpdfglbdijkoaaGreatDoor
open Go.RowKit
set_option linter.unusedVariables false
set_option linter.unusedSimpArgs false
structure Sp where
 first:Int
 last:Int
 some:Bool
def fr0:Fr:=⟨[],[],[],0⟩
def inCal (k:List Int) (e d:Int):Bool:=decide (d < e∧∃ x ∈ k,x≤d)
def finN (E:Nat) (F:Fr) (s:Sp):Nat × Fr:=if E ≠ 0 then (E,fr0) else if checkF F ≠ 0 then (checkF F,fr0) else if s.some = true∧¬ (inCal F.k F.e s.first = true∧inCal F.k F.e s.last = true) then (13,fr0) else (0,F)
def opN (f:Fr) (o:RO):Nat × Fr :=
 if o.kind = 7 then (0,{ f with k:=o.starts,e:=o.fin }) else if o.kind = 5∨o.kind = 6 then ((unitN f.u o).1,{ f with u:=(unitN f.u o).2 }) else ((chartN f.c o).1,{ f with c:=(chartN f.c o).2 })
def nextN (f:Fr) (s:Sp) (o:RO):Nat × Fr:=if o.kind < 0∨8≤o.kind then (9,fr0) else finN (opN f o).1 (opN f o).2 s
theorem FrAt.zero (w:World):FrAt w (.slice none 0 0) (.slice none 0 0) (.slice none 0 0) fr0:=⟨CsAt.nil w,⟨none,0,rfl,.inl rfl⟩,⟨none,0,rfl,.inl rfl⟩⟩
theorem zce {k:IntKind} {w w':World} {g:Nat} {v:Value} {l:List Int} {cs:Array Value} {t:TypeId} (h:NsAt k w v l) (R:Row w g cs t) (hn:∀ (j:Nat) (n:Int),cs[j]? ≠ some (.int k n)) (hs:Stored w g w'):NsAt k w' v l:=by
 obtain ⟨p,cap,e,h⟩:=h
 refine ⟨p,cap,e,?_⟩
 rcases h with h | ⟨b,off,h1,h2⟩
 ·exact .inl h
 ·refine .inr ⟨b,off,h1,fun i hi=>?_⟩
  have hc:=h2 i hi
  by_cases c:b = g
  ·subst c
   rw [R.cell] at hc
   exact absurd hc (hn _ _)
  ·have hh:w'.heap[b]? = w.heap[b]?:=hs.other b c
   unfold World.cell? at hc ⊢
   rw [hh]
   exact hc
theorem zcf {w w':World} {g:Nat} {v:Value} {l:List Ac} {cs:Array Value} {t:TypeId} (h:CsAt w v l) (R:Row w g cs t) (hn:∀ (j:Nat) (n:Int),cs[j]? ≠ some (.int .u32 n)) (hs:Stored w g w'):CsAt w' v l:=by
 obtain ⟨p,cap,e,h⟩:=h
 refine ⟨p,cap,e,?_⟩
 rcases h with h | ⟨b,off,h1,h2⟩
 ·exact .inl h
 ·refine .inr ⟨b,off,h1,fun i hi j v hj=>?_⟩
  have hc0:=h2 i hi 0 _ rfl
  have hc:=h2 i hi j v hj
  by_cases c:b = g
  ·subst c
   rw [R.cell] at hc0
   exact absurd hc0 (hn _ _)
  ·have hh:w'.heap[b]? = w.heap[b]?:=hs.other b c
   unfold World.cell? at hc ⊢
   rw [hh]
   exact hc
theorem zek (k:IntKind) (hk:k ≠ .i32) (p1 p2 p3:Option Addr) (n1 n2 n3 c1 c2 c3:Nat) (e:Int) (j:Nat) (n:Int):(#[.slice p1 n1 c1,.slice p2 n2 c2,.slice p3 n3 c3,.int .i32 e]:Array Value)[j]? ≠ some (.int k n):=by
 rcases j with _ | _ | _ | _ | j
 ·simp
 ·simp
 ·simp
 ·simp
  intro h
  exact absurd h.symm hk
 ·simp
theorem ztc (l:List Int) (x:Int):(putU l x).length≤l.length + 1:=by
 unfold putU
 rw [List.length_append,List.length_cons]
 have h:(l.filter fun y=>decide (y < x)).length + (l.filter fun y=>decide (x < y)).length≤l.length:=by
  induction l with
  | nil=>simp
  | cons y r ih =>
   by_cases c1:y < x
   ·rw [List.filter_cons_of_pos (by simpa using c1),List.filter_cons_of_neg (by simp; omega),List.length_cons,List.length_cons]
    omega
   ·rw [List.filter_cons_of_neg (by simpa using c1)]
    have:=List.length_filter_le (fun y=>decide (x < y)) (y :: r)
    by_cases c2:x < y
    ·rw [List.filter_cons_of_pos (by simpa using c2),List.length_cons,List.length_cons]
     omega
    ·rw [List.filter_cons_of_neg (by simpa using c2),List.length_cons]
     omega
 omega
theorem zky {k:List Int} {e:Int} (h:checkK k e = 0):NRise k∧k.length≤60:=by
 unfold checkK at h
 by_cases c:k.length < 1∨60 < k.length
 ·rw [if_pos c] at h; cases h
 ·rw [if_neg c] at h
  refine ⟨?_,by omega⟩
  have hs:∀ i,i + 1 < k.length→k.getD i 0 < k.getD (i + 1) 0:=fun i hi=>by
   have h:=zfy h (i + 1) (by omega)
   unfold k1 at h
   have g1:∀ j,j < k.length→(k ++ [e]).getD j 0 = k.getD j 0:=fun j hj=>by
    rw [List.getD_eq_getElem?_getD,List.getD_eq_getElem?_getD,List.getElem?_append_left hj]
   rw [g1 (i + 1) hi,show i + 1 - 1 = i by omega,g1 i (by omega)] at h
   by_cases c:dayOk (k.getD (i + 1) 0) = false
   ·rw [if_pos c] at h; cases h
   ·rw [if_neg c] at h
    by_cases c2:0 < i + 1∧k.getD (i + 1) 0≤k.getD i 0
    ·rw [if_pos c2] at h; cases h
    ·have c3:¬ k.getD (i + 1) 0≤k.getD i 0:=fun h=>c2 ⟨by omega,h⟩
     omega
  intro i j hij hj
  induction j with
  | zero=>omega
  | succ j ih =>
   by_cases c:i = j
   ·subst c; exact hs i hj
   ·have:=ih (by omega) (by omega)
    have:=hs j hj
    omega
theorem zeb {f:Fr} (h:checkF f = 0):NRise f.k∧f.k.length≤60:=by
 unfold checkF at h
 by_cases a:checkC f.c = 0
 ·rw [if_neg (by rw [a]; simp)] at h
  by_cases b:checkU f.u = 0
  ·rw [if_neg (by rw [b]; simp)] at h
   exact zky h
  ·rw [if_pos b] at h; exact absurd h b
 ·rw [if_pos a] at h; exact absurd h a
theorem zcp (v:Value) (l:List Int) (e d:Int) (w:World) (hN:NsAt .i32 w v l) (hl:l.length≤60) (hr:NRise l) :
  Calls Tryz.prog 33 #[.agg #[v,.int .i32 e],.int .i32 d] w fun r w'=>∃ n:Int,r = .returned (.tuple #[.int .i64 n,.bool (inCal l e d)])∧Below w.heap.size w w':=by
 obtain ⟨i,hp⟩:=zkg l d hr
 refine (zet v l e d i w hN (by omega) hp).mono ?_
 rintro _ w' ⟨rfl,hb⟩
 unfold Cal.per
 by_cases c1:e≤d
 ·rw [if_pos c1]
  exact ⟨0,by unfold inCal; rw [decide_eq_false (by omega)]; rfl,hb⟩
 rw [if_neg c1]
 by_cases c2:i < l.length∧l.getD i 0 = d
 ·rw [if_pos c2]
  exact ⟨(i:Int),by unfold inCal; rw [decide_eq_true ⟨by omega,d,by rw [← c2.2]; exact zay c2.1,Int.le_refl _⟩]; rfl,hb⟩
 rw [if_neg c2]
 by_cases c3:i = 0
 ·rw [if_pos c3]
  refine ⟨0,?_,hb⟩
  have hno:¬ (d < e∧∃ x ∈ l,x≤d):=by
   rintro ⟨_,x,hx,hxd⟩
   obtain ⟨t,ht,rfl⟩:=List.getElem_of_mem hx
   have h1:=hp.2.2 t (by omega) ht
   rw [List.getD_eq_getElem?_getD,List.getElem?_eq_getElem ht] at h1
   have h1:d≤l[t]:=h1
   by_cases ct:t = 0
   ·subst ct
    refine c2 ⟨by omega,?_⟩
    rw [c3,List.getD_eq_getElem?_getD,List.getElem?_eq_getElem ht]
    show l[0] = d
    omega
   ·have h2:=hr 0 t (by omega) ht
    have h3:=hp.2.2 0 (by omega) (by omega)
    rw [List.getD_eq_getElem?_getD,List.getD_eq_getElem?_getD,List.getElem?_eq_getElem ht] at h2
    rw [List.getD_eq_getElem?_getD] at h3
    have h2:l[0]?.getD 0 < l[t]:=h2
    omega
  unfold inCal
  rw [decide_eq_false hno]
  rfl
 ·rw [if_neg c3]
  have hlt:i - 1 < l.length:=by have:=hp.1; omega
  have h1:=hp.2.1 (i - 1) (by omega)
  exact ⟨((i - 1:Nat):Int),by unfold inCal; rw [decide_eq_true ⟨by omega,_,zay (d:=0) hlt,by omega⟩]; rfl,hb⟩
theorem zpd (u:List Int) (o:RO):(unitN u o).2.length≤u.length + 1:=by
 have h:(putU (dropU u o.fr) o.too).length≤u.length + 1:=by
  have a:=zeo u o.fr
  have b:(putU (dropU u o.fr) o.too).length≤(dropU u o.fr).length + 1:=ztc _ _
  omega
 unfold unitN
 repeat' split
 all_goals (first | exact h | simp)
def nameIn (m:Nat) (l:List Ac):Prop:=∀ x ∈ l,x.name.size≤m
theorem zdy {m:Nat} {l:List Ac} (h:nameIn m l) (n:Nat):nameIn m (dropC l n):=fun x hx=>h x (List.mem_filter.1 hx).1
theorem zdn {m:Nat} {l:List Ac} (h:nameIn m l) (y:Ac) (hy:y.name.size≤m):nameIn m (putC l y):=fun x hx=>by
 unfold putC at hx
 rcases List.mem_append.1 hx with hx | hx
 ·exact h x (List.mem_filter.1 hx).1
 ·rcases List.mem_cons.1 hx with rfl | hx
  ·exact hy
  ·exact h x (List.mem_filter.1 hx).1
theorem zkk {m:Nat} {l:List Ac} (h:nameIn m l) (a b:Nat):nameIn m (moveC l a b):=fun x hx=>by
 unfold moveC at hx
 obtain ⟨y,hy,rfl⟩:=List.mem_map.1 hx
 split
 ·exact h y hy
 ·exact h y hy
def fitP (m n:Nat) (r:Nat × List Ac):Prop:=nameIn m r.2∧r.2.length≤n
theorem zdp (m n e:Nat):fitP m n (e,[]):=⟨fun x hx=>(nomatch hx),Nat.zero_le _⟩
theorem zji {m n n':Nat} {r:Nat × List Ac} (h:fitP m n r) (hn:n≤n'):fitP m n' r:=⟨h.1,Nat.le_trans h.2 hn⟩
theorem zie (m:Nat) (x:Ac) (hx:x.name.size≤m):∀ (ps:List (Nat × Int)) (out:List Ac),nameIn m out→fitP m (out.length + ps.length) (splitG x out ps)
 | [],out,h=>⟨zdy h _,by show (dropC out x.code).length≤_; have:=zdh out x.code; simp; omega⟩
 | q :: r,out,h=>by
  unfold splitG
  by_cases a:partOk q = false
  ·rw [if_pos a]; exact zdp _ _ _
  ·rw [if_neg a]
   by_cases b:(getC out q.1).isSome
   ·rw [if_pos b]; exact zdp _ _ _
   ·rw [if_neg b]
    have h1:=zie m x hx r (putC out { x with code:=q.1 }) (zdn h _ hx)
    refine zji h1 ?_
    have:=zdm out { x with code:=q.1 }
    rw [List.length_cons]
    omega
theorem zos (m:Nat) (c:List Ac) (x:Ac) (o:RO) (h:nameIn m c) (hxm:x.name.size≤m) (ho:o.name.size≤m):fitP m (c.length + 1 + o.parts.length) (chartK c x o):=by
 unfold chartK
 by_cases k0:o.kind = 0
 ·rw [if_pos k0]
  unfold renumberN
  split
  ·exact zdp _ _ _
  ·refine ⟨zkk (zdn (zdy h _) { x with code:=o.too } hxm) _ _,?_⟩
   show (moveC _ _ _).length≤_
   rw [zfu]
   have:=zdm (dropC c x.code) { x with code:=o.too }
   have:=zdh c x.code
   omega
 rw [if_neg k0]
 by_cases k1:o.kind = 1
 ·rw [if_pos k1]
  refine ⟨zdn h { x with name:=o.name } ho,?_⟩
  have:=zdm c { x with name:=o.name }
  show (putC c _).length≤_
  omega
 rw [if_neg k1]
 by_cases k2:o.kind = 2
 ·rw [if_pos k2]
  refine ⟨zdn h { x with par:=o.too } hxm,?_⟩
  have:=zdm c { x with par:=o.too }
  show (putC c _).length≤_
  omega
 rw [if_neg k2]
 by_cases k3:o.kind = 3
 ·rw [if_pos k3]
  unfold mergeN
  repeat' split
  all_goals (first | exact zdp _ _ _ | skip)
  refine ⟨zdy h _,?_⟩
  have:=zdh c x.code
  show (dropC c x.code).length≤_
  omega
 rw [if_neg k3]
 unfold splitN
 repeat' split
 all_goals (first | exact zdp _ _ _ | skip)
 exact zji (zie m x hxm o.parts c h) (by omega)
theorem zor (m:Nat) (c:List Ac) (o:RO) (h:nameIn m c) (ho:o.name.size≤m):fitP m (c.length + 1 + o.parts.length) (chartN c o):=by
 unfold chartN
 by_cases a:(getC c o.fr).isSome = false
 ·rw [if_pos a]; exact zdp _ _ _
 rw [if_neg a]
 obtain ⟨x,hx⟩:∃ x,getC c o.fr = some x:=Option.isSome_iff_exists.1 (eq_true_of_ne_false a)
 rw [hx]
 exact zos m c x o h (h x (List.mem_of_find?_eq_some hx)) ho
set_option maxHeartbeats 16000000 in
set_option maxRecDepth 100000 in
theorem ztq (f:Fr) (cv uv kv:Value) (s:Sp) (o:RO) (vp vs:Value) (w:World) (hF:FrAt w cv uv kv f) (hO:okR w o vp vs) (hf:f.c.length≤70000∧f.u.length≤70000∧(∀ x ∈ f.c,x.name.size≤1000000000)∧o.name.size≤1000000000∧o.parts.length≤1000) (hrc:AcRise f.c) (hru:NRise f.u) (hG:Glb5 w) :
  Calls Tryz.prog 12 #[.agg #[cv,uv,kv,.int .i32 f.e],.agg #[.int .i32 s.first,.int .i32 s.last,.bool s.some],.agg (rov o vp vs).toArray] w fun e w'=>∃ c' u' k',e = .returned (.tuple #[.agg #[c',u',k',.int .i32 (nextN f s o).2.e],.int .i64 ((nextN f s o).1:Int)])∧FrAt w' c' u' k' (nextN f s o).2∧Below w.heap.size w w':=by
 have HF:=hdq hF
 have HO:=hdq hO
 have HGL:=hdq hG
 have HLN:=hdq hf
 have HRC:=hdq hrc
 have HRU:=hdq hru
 obtain ⟨⟨pp,pcap,rfl,_⟩,⟨ps,scap,rfl,_⟩⟩:=hO
 obtain ⟨⟨p1,k1,rfl,_⟩,⟨p2,k2,rfl,_⟩,⟨p3,k3,rfl,_⟩⟩:=hF
 clear hf hrc hru hG
 obtain ⟨R,hR⟩:∃ R,R = nextN f s o:=⟨_,rfl⟩
 have HR:=hdq hR
 rw [← hR]
 clear hR
 unfold rov
 have B0:=zaa (zaa (zaa (zaa (Below.refl _ w) (.cells #[.slice p1 f.c.length k1,.slice p2 f.u.length k2,.slice p3 f.k.length k3,.int .i32 f.e] 41)) (.cells #[.int .i32 s.first,.int .i32 s.last,.bool s.some] 53)) (.cells #[.int .i64 o.kind,.int .u32 (o.fr:Int),.int .u32 (o.too:Int),.string o.name,.slice pp o.parts.length pcap,.slice ps o.starts.length scap,.int .i32 o.fin,.int .i64 o.pos] 47)) (.cells #[.slice none 0 0,.slice none 0 0,.slice none 0 0,.int .i32 0] 41)
 have RF:Row ((((w.alloc (.cells #[.slice p1 f.c.length k1,.slice p2 f.u.length k2,.slice p3 f.k.length k3,.int .i32 f.e] 41)).alloc (.cells #[.int .i32 s.first,.int .i32 s.last,.bool s.some] 53)).alloc (.cells #[.int .i64 o.kind,.int .u32 (o.fr:Int),.int .u32 (o.too:Int),.string o.name,.slice pp o.parts.length pcap,.slice ps o.starts.length scap,.int .i32 o.fin,.int .i64 o.pos] 47)).alloc (.cells #[.slice none 0 0,.slice none 0 0,.slice none 0 0,.int .i32 0] 41)) w.heap.size #[.slice p1 f.c.length k1,.slice p2 f.u.length k2,.slice p3 f.k.length k3,.int .i32 f.e] 41:=(((Row.new w _ _).alloc _).alloc _).alloc _
 have RS:Row ((((w.alloc (.cells #[.slice p1 f.c.length k1,.slice p2 f.u.length k2,.slice p3 f.k.length k3,.int .i32 f.e] 41)).alloc (.cells #[.int .i32 s.first,.int .i32 s.last,.bool s.some] 53)).alloc (.cells #[.int .i64 o.kind,.int .u32 (o.fr:Int),.int .u32 (o.too:Int),.string o.name,.slice pp o.parts.length pcap,.slice ps o.starts.length scap,.int .i32 o.fin,.int .i64 o.pos] 47)).alloc (.cells #[.slice none 0 0,.slice none 0 0,.slice none 0 0,.int .i32 0] 41)) (w.heap.size + 1) #[.int .i32 s.first,.int .i32 s.last,.bool s.some] 53:=((Row.new' _ _ _ (by simp)).alloc _).alloc _
 have RO:Row ((((w.alloc (.cells #[.slice p1 f.c.length k1,.slice p2 f.u.length k2,.slice p3 f.k.length k3,.int .i32 f.e] 41)).alloc (.cells #[.int .i32 s.first,.int .i32 s.last,.bool s.some] 53)).alloc (.cells #[.int .i64 o.kind,.int .u32 (o.fr:Int),.int .u32 (o.too:Int),.string o.name,.slice pp o.parts.length pcap,.slice ps o.starts.length scap,.int .i32 o.fin,.int .i64 o.pos] 47)).alloc (.cells #[.slice none 0 0,.slice none 0 0,.slice none 0 0,.int .i32 0] 41)) (w.heap.size + 2) #[.int .i64 o.kind,.int .u32 (o.fr:Int),.int .u32 (o.too:Int),.string o.name,.slice pp o.parts.length pcap,.slice ps o.starts.length scap,.int .i32 o.fin,.int .i64 o.pos] 47:=(Row.new' _ _ _ (by simp)).alloc _
 have RZ:Row ((((w.alloc (.cells #[.slice p1 f.c.length k1,.slice p2 f.u.length k2,.slice p3 f.k.length k3,.int .i32 f.e] 41)).alloc (.cells #[.int .i32 s.first,.int .i32 s.last,.bool s.some] 53)).alloc (.cells #[.int .i64 o.kind,.int .u32 (o.fr:Int),.int .u32 (o.too:Int),.string o.name,.slice pp o.parts.length pcap,.slice ps o.starts.length scap,.int .i32 o.fin,.int .i64 o.pos] 47)).alloc (.cells #[.slice none 0 0,.slice none 0 0,.slice none 0 0,.int .i32 0] 41)) (w.heap.size + 3) #[.slice none 0 0,.slice none 0 0,.slice none 0 0,.int .i32 0] 41:=Row.new' _ _ _ (by simp)
 have HRZ:=hdq RZ
 have HB:=hdq B0
 go_enter Tryz.func12,Tryz.ntmps12
 have d0:((((w.alloc (.cells #[.slice p1 f.c.length k1,.slice p2 f.u.length k2,.slice p3 f.k.length k3,.int .i32 f.e] 41)).alloc (.cells #[.int .i32 s.first,.int .i32 s.last,.bool s.some] 53)).alloc (.cells #[.int .i64 o.kind,.int .u32 (o.fr:Int),.int .u32 (o.too:Int),.string o.name,.slice pp o.parts.length pcap,.slice ps o.starts.length scap,.int .i32 o.fin,.int .i64 o.pos] 47)).alloc (.cells #[.slice none 0 0,.slice none 0 0,.slice none 0 0,.int .i32 0] 41)).cell? ⟨(w.heap.size + 2),0,none⟩ = some (.int .i64 o.kind):=RO.cell 0
 have d1:((((w.alloc (.cells #[.slice p1 f.c.length k1,.slice p2 f.u.length k2,.slice p3 f.k.length k3,.int .i32 f.e] 41)).alloc (.cells #[.int .i32 s.first,.int .i32 s.last,.bool s.some] 53)).alloc (.cells #[.int .i64 o.kind,.int .u32 (o.fr:Int),.int .u32 (o.too:Int),.string o.name,.slice pp o.parts.length pcap,.slice ps o.starts.length scap,.int .i32 o.fin,.int .i64 o.pos] 47)).alloc (.cells #[.slice none 0 0,.slice none 0 0,.slice none 0 0,.int .i32 0] 41)).cell? ⟨(w.heap.size + 2),1,none⟩ = some (.int .u32 (o.fr:Int)):=RO.cell 1
 have d2:((((w.alloc (.cells #[.slice p1 f.c.length k1,.slice p2 f.u.length k2,.slice p3 f.k.length k3,.int .i32 f.e] 41)).alloc (.cells #[.int .i32 s.first,.int .i32 s.last,.bool s.some] 53)).alloc (.cells #[.int .i64 o.kind,.int .u32 (o.fr:Int),.int .u32 (o.too:Int),.string o.name,.slice pp o.parts.length pcap,.slice ps o.starts.length scap,.int .i32 o.fin,.int .i64 o.pos] 47)).alloc (.cells #[.slice none 0 0,.slice none 0 0,.slice none 0 0,.int .i32 0] 41)).cell? ⟨(w.heap.size + 2),2,none⟩ = some (.int .u32 (o.too:Int)):=RO.cell 2
 have d3:((((w.alloc (.cells #[.slice p1 f.c.length k1,.slice p2 f.u.length k2,.slice p3 f.k.length k3,.int .i32 f.e] 41)).alloc (.cells #[.int .i32 s.first,.int .i32 s.last,.bool s.some] 53)).alloc (.cells #[.int .i64 o.kind,.int .u32 (o.fr:Int),.int .u32 (o.too:Int),.string o.name,.slice pp o.parts.length pcap,.slice ps o.starts.length scap,.int .i32 o.fin,.int .i64 o.pos] 47)).alloc (.cells #[.slice none 0 0,.slice none 0 0,.slice none 0 0,.int .i32 0] 41)).cell? ⟨(w.heap.size + 2),3,none⟩ = some (.string o.name):=RO.cell 3
 have d4:((((w.alloc (.cells #[.slice p1 f.c.length k1,.slice p2 f.u.length k2,.slice p3 f.k.length k3,.int .i32 f.e] 41)).alloc (.cells #[.int .i32 s.first,.int .i32 s.last,.bool s.some] 53)).alloc (.cells #[.int .i64 o.kind,.int .u32 (o.fr:Int),.int .u32 (o.too:Int),.string o.name,.slice pp o.parts.length pcap,.slice ps o.starts.length scap,.int .i32 o.fin,.int .i64 o.pos] 47)).alloc (.cells #[.slice none 0 0,.slice none 0 0,.slice none 0 0,.int .i32 0] 41)).cell? ⟨(w.heap.size + 2),4,none⟩ = some (.slice pp o.parts.length pcap):=RO.cell 4
 have d5:((((w.alloc (.cells #[.slice p1 f.c.length k1,.slice p2 f.u.length k2,.slice p3 f.k.length k3,.int .i32 f.e] 41)).alloc (.cells #[.int .i32 s.first,.int .i32 s.last,.bool s.some] 53)).alloc (.cells #[.int .i64 o.kind,.int .u32 (o.fr:Int),.int .u32 (o.too:Int),.string o.name,.slice pp o.parts.length pcap,.slice ps o.starts.length scap,.int .i32 o.fin,.int .i64 o.pos] 47)).alloc (.cells #[.slice none 0 0,.slice none 0 0,.slice none 0 0,.int .i32 0] 41)).cell? ⟨(w.heap.size + 2),5,none⟩ = some (.slice ps o.starts.length scap):=RO.cell 5
 have d6:((((w.alloc (.cells #[.slice p1 f.c.length k1,.slice p2 f.u.length k2,.slice p3 f.k.length k3,.int .i32 f.e] 41)).alloc (.cells #[.int .i32 s.first,.int .i32 s.last,.bool s.some] 53)).alloc (.cells #[.int .i64 o.kind,.int .u32 (o.fr:Int),.int .u32 (o.too:Int),.string o.name,.slice pp o.parts.length pcap,.slice ps o.starts.length scap,.int .i32 o.fin,.int .i64 o.pos] 47)).alloc (.cells #[.slice none 0 0,.slice none 0 0,.slice none 0 0,.int .i32 0] 41)).cell? ⟨(w.heap.size + 2),6,none⟩ = some (.int .i32 o.fin):=RO.cell 6
 have d7:((((w.alloc (.cells #[.slice p1 f.c.length k1,.slice p2 f.u.length k2,.slice p3 f.k.length k3,.int .i32 f.e] 41)).alloc (.cells #[.int .i32 s.first,.int .i32 s.last,.bool s.some] 53)).alloc (.cells #[.int .i64 o.kind,.int .u32 (o.fr:Int),.int .u32 (o.too:Int),.string o.name,.slice pp o.parts.length pcap,.slice ps o.starts.length scap,.int .i32 o.fin,.int .i64 o.pos] 47)).alloc (.cells #[.slice none 0 0,.slice none 0 0,.slice none 0 0,.int .i32 0] 41)).cell? ⟨(w.heap.size + 2),7,none⟩ = some (.int .i64 o.pos):=RO.cell 7
 have f0:((((w.alloc (.cells #[.slice p1 f.c.length k1,.slice p2 f.u.length k2,.slice p3 f.k.length k3,.int .i32 f.e] 41)).alloc (.cells #[.int .i32 s.first,.int .i32 s.last,.bool s.some] 53)).alloc (.cells #[.int .i64 o.kind,.int .u32 (o.fr:Int),.int .u32 (o.too:Int),.string o.name,.slice pp o.parts.length pcap,.slice ps o.starts.length scap,.int .i32 o.fin,.int .i64 o.pos] 47)).alloc (.cells #[.slice none 0 0,.slice none 0 0,.slice none 0 0,.int .i32 0] 41)).cell? ⟨w.heap.size,0,none⟩ = some (.slice p1 f.c.length k1):=RF.cell 0
 have f1:((((w.alloc (.cells #[.slice p1 f.c.length k1,.slice p2 f.u.length k2,.slice p3 f.k.length k3,.int .i32 f.e] 41)).alloc (.cells #[.int .i32 s.first,.int .i32 s.last,.bool s.some] 53)).alloc (.cells #[.int .i64 o.kind,.int .u32 (o.fr:Int),.int .u32 (o.too:Int),.string o.name,.slice pp o.parts.length pcap,.slice ps o.starts.length scap,.int .i32 o.fin,.int .i64 o.pos] 47)).alloc (.cells #[.slice none 0 0,.slice none 0 0,.slice none 0 0,.int .i32 0] 41)).cell? ⟨w.heap.size,1,none⟩ = some (.slice p2 f.u.length k2):=RF.cell 1
 have f2:((((w.alloc (.cells #[.slice p1 f.c.length k1,.slice p2 f.u.length k2,.slice p3 f.k.length k3,.int .i32 f.e] 41)).alloc (.cells #[.int .i32 s.first,.int .i32 s.last,.bool s.some] 53)).alloc (.cells #[.int .i64 o.kind,.int .u32 (o.fr:Int),.int .u32 (o.too:Int),.string o.name,.slice pp o.parts.length pcap,.slice ps o.starts.length scap,.int .i32 o.fin,.int .i64 o.pos] 47)).alloc (.cells #[.slice none 0 0,.slice none 0 0,.slice none 0 0,.int .i32 0] 41)).cell? ⟨w.heap.size,2,none⟩ = some (.slice p3 f.k.length k3):=RF.cell 2
 have f3:((((w.alloc (.cells #[.slice p1 f.c.length k1,.slice p2 f.u.length k2,.slice p3 f.k.length k3,.int .i32 f.e] 41)).alloc (.cells #[.int .i32 s.first,.int .i32 s.last,.bool s.some] 53)).alloc (.cells #[.int .i64 o.kind,.int .u32 (o.fr:Int),.int .u32 (o.too:Int),.string o.name,.slice pp o.parts.length pcap,.slice ps o.starts.length scap,.int .i32 o.fin,.int .i64 o.pos] 47)).alloc (.cells #[.slice none 0 0,.slice none 0 0,.slice none 0 0,.int .i32 0] 41)).cell? ⟨w.heap.size,3,none⟩ = some (.int .i32 f.e):=RF.cell 3
 by_cases kb:o.kind < 0∨8≤o.kind
 ·have hv:=hdq (show R = (9,fr0) by rw [HR.out]; unfold nextN; rw [if_pos kb])
  clear RF RS RO RZ B0 HR
  rcases kb with z1 | z2
  ·go_wp2_with (first | (refine zad rfl 41 _ _ rfl (w.heap.size + 3) #[.slice none 0 0,.slice none 0 0,.slice none 0 0,.int .i32 0] rfl rfl HRZ.out (by kernel_rfl) rfl (by simp [Value.oneCell']) rfl ?_; intro wz RZ SZ))
   have x0:wz.cell? ⟨(w.heap.size + 3),0,none⟩ = some (.slice none 0 0):=RZ.cell 0
   have x1:wz.cell? ⟨(w.heap.size + 3),1,none⟩ = some (.slice none 0 0):=RZ.cell 1
   have x2:wz.cell? ⟨(w.heap.size + 3),2,none⟩ = some (.slice none 0 0):=RZ.cell 2
   have x3:wz.cell? ⟨(w.heap.size + 3),3,none⟩ = some (.int .i32 0):=RZ.cell 3
   refine bodyPost_ret (v:=.tuple #[.agg #[.slice none 0 0,.slice none 0 0,.slice none 0 0,.int .i32 0],.int .i64 9]) (by simp [results,Tryz.results12,go_sem,x0,x1,x2,x3]) rfl ⟨_,_,_,by rw [hv.out]; rfl,by rw [hv.out]; exact FrAt.zero _,SZ.below HB.out (by omega)⟩
  ·have z1:¬ o.kind < 0:=by omega
   go_wp2_with (first | (refine zad rfl 41 _ _ rfl (w.heap.size + 3) #[.slice none 0 0,.slice none 0 0,.slice none 0 0,.int .i32 0] rfl rfl HRZ.out (by kernel_rfl) rfl (by simp [Value.oneCell']) rfl ?_; intro wz RZ SZ))
   have x0:wz.cell? ⟨(w.heap.size + 3),0,none⟩ = some (.slice none 0 0):=RZ.cell 0
   have x1:wz.cell? ⟨(w.heap.size + 3),1,none⟩ = some (.slice none 0 0):=RZ.cell 1
   have x2:wz.cell? ⟨(w.heap.size + 3),2,none⟩ = some (.slice none 0 0):=RZ.cell 2
   have x3:wz.cell? ⟨(w.heap.size + 3),3,none⟩ = some (.int .i32 0):=RZ.cell 3
   refine bodyPost_ret (v:=.tuple #[.agg #[.slice none 0 0,.slice none 0 0,.slice none 0 0,.int .i32 0],.int .i64 9]) (by simp [results,Tryz.results12,go_sem,x0,x1,x2,x3]) rfl ⟨_,_,_,by rw [hv.out]; rfl,by rw [hv.out]; exact FrAt.zero _,SZ.below HB.out (by omega)⟩
 have HRN:=hdq (show R = finN (opN f o).1 (opN f o).2 s by rw [HR.out]; unfold nextN; rw [if_neg kb])
 have z1:¬ o.kind < 0:=by omega
 have z2:¬ 8≤o.kind:=by omega
 clear HR HRZ HB
 by_cases k7:o.kind = 7
 ·have HV:=hdq (show R = finN 0 (⟨f.c,f.u,o.starts,o.fin⟩:Fr) s by rw [HRN.out]; unfold opN; rw [if_pos k7])
  have SA:=zag w.heap.size [.slice ps o.starts.length scap,.int .i32 o.fin] 2 ((((w.alloc (.cells #[.slice p1 f.c.length k1,.slice p2 f.u.length k2,.slice p3 f.k.length k3,.int .i32 f.e] 41)).alloc (.cells #[.int .i32 s.first,.int .i32 s.last,.bool s.some] 53)).alloc (.cells #[.int .i64 o.kind,.int .u32 (o.fr:Int),.int .u32 (o.too:Int),.string o.name,.slice pp o.parts.length pcap,.slice ps o.starts.length scap,.int .i32 o.fin,.int .i64 o.pos] 47)).alloc (.cells #[.slice none 0 0,.slice none 0 0,.slice none 0 0,.int .i32 0] 41))
  have HB5:=hdq (SA.below B0 (Nat.le_refl _))
  have HR5:Hid (Row (((((w.alloc (.cells #[.slice p1 f.c.length k1,.slice p2 f.u.length k2,.slice p3 f.k.length k3,.int .i32 f.e] 41)).alloc (.cells #[.int .i32 s.first,.int .i32 s.last,.bool s.some] 53)).alloc (.cells #[.int .i64 o.kind,.int .u32 (o.fr:Int),.int .u32 (o.too:Int),.string o.name,.slice pp o.parts.length pcap,.slice ps o.starts.length scap,.int .i32 o.fin,.int .i64 o.pos] 47)).alloc (.cells #[.slice none 0 0,.slice none 0 0,.slice none 0 0,.int .i32 0] 41)).setCells w.heap.size 2 [.slice ps o.starts.length scap,.int .i32 o.fin]) w.heap.size #[.slice p1 f.c.length k1,.slice p2 f.u.length k2,.slice ps o.starts.length scap,.int .i32 o.fin] 41):=hdq (Row.setCells [.slice ps o.starts.length scap,.int .i32 o.fin] 2 RF)
  have HRS5:=hdq (RS.stored SA (by omega))
  have HRZ5:=hdq (RZ.stored SA (by omega))
  have HRF:=hdq RF
  have HKO:=hdq HO.out.2
  have HF5:Hid (FrAt (((((w.alloc (.cells #[.slice p1 f.c.length k1,.slice p2 f.u.length k2,.slice p3 f.k.length k3,.int .i32 f.e] 41)).alloc (.cells #[.int .i32 s.first,.int .i32 s.last,.bool s.some] 53)).alloc (.cells #[.int .i64 o.kind,.int .u32 (o.fr:Int),.int .u32 (o.too:Int),.string o.name,.slice pp o.parts.length pcap,.slice ps o.starts.length scap,.int .i32 o.fin,.int .i64 o.pos] 47)).alloc (.cells #[.slice none 0 0,.slice none 0 0,.slice none 0 0,.int .i32 0] 41)).setCells w.heap.size 2 [.slice ps o.starts.length scap,.int .i32 o.fin]) (.slice p1 f.c.length k1) (.slice p2 f.u.length k2) (.slice ps o.starts.length scap) (⟨f.c,f.u,o.starts,o.fin⟩:Fr)):=hdq ⟨HF.out.1.below HB5.out,HF.out.2.1.below HB5.out,HO.out.2.below HB5.out⟩
  have HFF:Hid (Fr.fit (⟨f.c,f.u,o.starts,o.fin⟩:Fr)):=hdq ⟨Nat.le_trans HLN.out.1 (by omega),Nat.le_trans HLN.out.2.1 (by omega),HLN.out.2.2.1⟩
  have z7:(o.kind == 7) = true:=by rw [k7]; rfl
  clear SA RF RS RO RZ k7 kb B0 HRN
  have HV2:=hdq (show R = if checkF (⟨f.c,f.u,o.starts,o.fin⟩:Fr) ≠ 0 then (checkF (⟨f.c,f.u,o.starts,o.fin⟩:Fr),fr0) else if s.some = true∧¬ (inCal o.starts o.fin s.first = true∧inCal o.starts o.fin s.last = true) then (13,fr0) else (0,(⟨f.c,f.u,o.starts,o.fin⟩:Fr)) by rw [HV.out]; unfold finN; rw [if_neg (by simp)])
  clear HV
  have y0:(((((w.alloc (.cells #[.slice p1 f.c.length k1,.slice p2 f.u.length k2,.slice p3 f.k.length k3,.int .i32 f.e] 41)).alloc (.cells #[.int .i32 s.first,.int .i32 s.last,.bool s.some] 53)).alloc (.cells #[.int .i64 o.kind,.int .u32 (o.fr:Int),.int .u32 (o.too:Int),.string o.name,.slice pp o.parts.length pcap,.slice ps o.starts.length scap,.int .i32 o.fin,.int .i64 o.pos] 47)).alloc (.cells #[.slice none 0 0,.slice none 0 0,.slice none 0 0,.int .i32 0] 41)).setCells w.heap.size 2 [.slice ps o.starts.length scap,.int .i32 o.fin]).cell? ⟨w.heap.size,0,none⟩ = some (.slice p1 f.c.length k1):=HR5.out.cell 0
  have y1:(((((w.alloc (.cells #[.slice p1 f.c.length k1,.slice p2 f.u.length k2,.slice p3 f.k.length k3,.int .i32 f.e] 41)).alloc (.cells #[.int .i32 s.first,.int .i32 s.last,.bool s.some] 53)).alloc (.cells #[.int .i64 o.kind,.int .u32 (o.fr:Int),.int .u32 (o.too:Int),.string o.name,.slice pp o.parts.length pcap,.slice ps o.starts.length scap,.int .i32 o.fin,.int .i64 o.pos] 47)).alloc (.cells #[.slice none 0 0,.slice none 0 0,.slice none 0 0,.int .i32 0] 41)).setCells w.heap.size 2 [.slice ps o.starts.length scap,.int .i32 o.fin]).cell? ⟨w.heap.size,1,none⟩ = some (.slice p2 f.u.length k2):=HR5.out.cell 1
  have y2:(((((w.alloc (.cells #[.slice p1 f.c.length k1,.slice p2 f.u.length k2,.slice p3 f.k.length k3,.int .i32 f.e] 41)).alloc (.cells #[.int .i32 s.first,.int .i32 s.last,.bool s.some] 53)).alloc (.cells #[.int .i64 o.kind,.int .u32 (o.fr:Int),.int .u32 (o.too:Int),.string o.name,.slice pp o.parts.length pcap,.slice ps o.starts.length scap,.int .i32 o.fin,.int .i64 o.pos] 47)).alloc (.cells #[.slice none 0 0,.slice none 0 0,.slice none 0 0,.int .i32 0] 41)).setCells w.heap.size 2 [.slice ps o.starts.length scap,.int .i32 o.fin]).cell? ⟨w.heap.size,2,none⟩ = some (.slice ps o.starts.length scap):=HR5.out.cell 2
  have y3:(((((w.alloc (.cells #[.slice p1 f.c.length k1,.slice p2 f.u.length k2,.slice p3 f.k.length k3,.int .i32 f.e] 41)).alloc (.cells #[.int .i32 s.first,.int .i32 s.last,.bool s.some] 53)).alloc (.cells #[.int .i64 o.kind,.int .u32 (o.fr:Int),.int .u32 (o.too:Int),.string o.name,.slice pp o.parts.length pcap,.slice ps o.starts.length scap,.int .i32 o.fin,.int .i64 o.pos] 47)).alloc (.cells #[.slice none 0 0,.slice none 0 0,.slice none 0 0,.int .i32 0] 41)).setCells w.heap.size 2 [.slice ps o.starts.length scap,.int .i32 o.fin]).cell? ⟨w.heap.size,3,none⟩ = some (.int .i32 o.fin):=HR5.out.cell 3
  go_wp2_with (first | (refine zga rfl 39 _ _ rfl w.heap.size 2 [.slice ps o.starts.length scap,.int .i32 o.fin] rfl rfl HRF.out (by kernel_rfl) (by show 2 + 2≤4; omega) (by simp [Value.oneCell']) rfl ?_) | fail)
  refine (zew (⟨f.c,f.u,o.starts,o.fin⟩:Fr) _ _ _ _ HF5.out HFF.out (HGL.out.below HB5.out)).mono ?_
  rintro _ w6 ⟨rfl,hb⟩
  have HR6:=hdq (HR5.out.below hb)
  have HRS6:=hdq (HRS5.out.below hb)
  have HRZ6:=hdq (HRZ5.out.below hb)
  have HF6:=hdq (HF5.out.below hb)
  have HB6:=hdq (zab HB5.out hb)
  obtain ⟨E2,hE2⟩:∃ E2,E2 = checkF (⟨f.c,f.u,o.starts,o.fin⟩:Fr):=⟨_,rfl⟩
  rw [← hE2] at HV2 ⊢
  have HE2:=hdq hE2
  clear hb hE2 y0 y1 y2 y3 HR5 HRS5 HRZ5 HF5 HB5
  by_cases e2:E2 = 0
  case neg =>
   have hv:=hdq (show R = (E2,fr0) by rw [HV2.out,if_pos e2])
   have zq2:((E2:Int) == 0) = false:=beq_eq_false_iff_ne.2 (by omega)
   clear e2
   go_wp2_with (first | (refine zad rfl 41 _ _ rfl (w.heap.size + 3) #[.slice none 0 0,.slice none 0 0,.slice none 0 0,.int .i32 0] rfl rfl HRZ6.out (by kernel_rfl) rfl (by simp [Value.oneCell']) rfl ?_; intro wz RZ SZ))
   have x0:wz.cell? ⟨(w.heap.size + 3),0,none⟩ = some (.slice none 0 0):=RZ.cell 0
   have x1:wz.cell? ⟨(w.heap.size + 3),1,none⟩ = some (.slice none 0 0):=RZ.cell 1
   have x2:wz.cell? ⟨(w.heap.size + 3),2,none⟩ = some (.slice none 0 0):=RZ.cell 2
   have x3:wz.cell? ⟨(w.heap.size + 3),3,none⟩ = some (.int .i32 0):=RZ.cell 3
   refine bodyPost_ret (v:=.tuple #[.agg #[.slice none 0 0,.slice none 0 0,.slice none 0 0,.int .i32 0],.int .i64 (E2:Int)]) (by simp [results,Tryz.results12,go_sem,x0,x1,x2,x3]) rfl ⟨_,_,_,by rw [hv.out]; rfl,by rw [hv.out]; exact FrAt.zero _,SZ.below HB6.out (by omega)⟩
  subst e2
  have HNR:=hdq (zeb HE2.out.symm)
  have HV3:=hdq (show R = if s.some = true∧¬ (inCal o.starts o.fin s.first = true∧inCal o.starts o.fin s.last = true) then (13,fr0) else (0,(⟨f.c,f.u,o.starts,o.fin⟩:Fr)) by rw [HV2.out,if_neg (by simp)])
  have s2:w6.cell? ⟨(w.heap.size + 1),2,none⟩ = some (.bool s.some):=HRS6.out.cell 2
  have s0:w6.cell? ⟨(w.heap.size + 1),0,none⟩ = some (.int .i32 s.first):=HRS6.out.cell 0
  have y2:w6.cell? ⟨w.heap.size,2,none⟩ = some (.slice ps o.starts.length scap):=HR6.out.cell 2
  have y3:w6.cell? ⟨w.heap.size,3,none⟩ = some (.int .i32 o.fin):=HR6.out.cell 3
  clear HV2
  obtain ⟨so,hso⟩:∃ so,so = s.some:=⟨_,rfl⟩
  rw [← hso] at HV3 s2
  clear hso
  cases so with
  | false =>
   have hv:=hdq (show R = (0,(⟨f.c,f.u,o.starts,o.fin⟩:Fr)) by rw [HV3.out,if_neg (fun h=>by cases h.1)])
   go_wp2_with (first | (refine zaq (N:=86) rfl rfl 41 _ rfl w.heap.size rfl HR6.out _ Tryz.underlying41 rfl (by kernel_rfl) ?_) | (refine zad rfl 41 _ _ rfl (w.heap.size + 3) #[.slice p1 f.c.length k1,.slice p2 f.u.length k2,.slice ps o.starts.length scap,.int .i32 o.fin] rfl rfl HRZ6.out (by kernel_rfl) rfl (by simp [Value.oneCell']) rfl ?_; intro wz RZ SZ))
   have x0:wz.cell? ⟨(w.heap.size + 3),0,none⟩ = some (.slice p1 f.c.length k1):=RZ.cell 0
   have x1:wz.cell? ⟨(w.heap.size + 3),1,none⟩ = some (.slice p2 f.u.length k2):=RZ.cell 1
   have x2:wz.cell? ⟨(w.heap.size + 3),2,none⟩ = some (.slice ps o.starts.length scap):=RZ.cell 2
   have x3:wz.cell? ⟨(w.heap.size + 3),3,none⟩ = some (.int .i32 o.fin):=RZ.cell 3
   have BZ:=SZ.below HB6.out (show w.heap.size≤(w.heap.size + 3) by omega)
   refine bodyPost_ret (v:=.tuple #[.agg #[.slice p1 f.c.length k1,.slice p2 f.u.length k2,.slice ps o.starts.length scap,.int .i32 o.fin],.int .i64 0]) (by simp [results,Tryz.results12,go_sem,x0,x1,x2,x3]) rfl ⟨_,_,_,by rw [hv.out]; rfl,by rw [hv.out]; exact ⟨zcf HF6.out.1 HRZ6.out (zek .u32 (by decide) _ _ _ _ _ _ _ _ _ _) SZ,zce HF6.out.2.1 HRZ6.out (zek .u16 (by decide) _ _ _ _ _ _ _ _ _ _) SZ,HKO.out.below BZ⟩,BZ⟩
  | true =>
   go_wp2_with fail
   refine (zcp _ o.starts o.fin s.first w6 HF6.out.2.2 HNR.out.2 HNR.out.1).mono ?_
   rintro _ w7 ⟨n7,rfl,hb⟩
   have HR7:=hdq (HR6.out.below hb)
   have HRS7:=hdq (HRS6.out.below hb)
   have HRZ7:=hdq (HRZ6.out.below hb)
   have HF7:=hdq (HF6.out.below hb)
   have HB7:=hdq (zab HB6.out hb)
   have s1:w7.cell? ⟨(w.heap.size + 1),1,none⟩ = some (.int .i32 s.last):=HRS7.out.cell 1
   have y2:w7.cell? ⟨w.heap.size,2,none⟩ = some (.slice ps o.starts.length scap):=HR7.out.cell 2
   have y3:w7.cell? ⟨w.heap.size,3,none⟩ = some (.int .i32 o.fin):=HR7.out.cell 3
   clear hb s0 s2
   obtain ⟨b1,hb1⟩:∃ b,b = inCal o.starts o.fin s.first:=⟨_,rfl⟩
   obtain ⟨b2,hb2⟩:∃ b,b = inCal o.starts o.fin s.last:=⟨_,rfl⟩
   have HV4:=hdq (show R = if ¬ (b1 = true∧b2 = true) then (13,fr0) else (0,(⟨f.c,f.u,o.starts,o.fin⟩:Fr)) by rw [HV3.out,hb1,hb2]; simp)
   rw [← hb1]
   have HQ2:=hdq hb2
   clear HV3 hb1 hb2
   go_wp2_with fail
   refine (zcp _ o.starts o.fin s.last w7 HF7.out.2.2 HNR.out.2 HNR.out.1).mono ?_
   rintro _ w8 ⟨n8,rfl,hb⟩
   have HR8:=hdq (HR7.out.below hb)
   have HRZ8:=hdq (HRZ7.out.below hb)
   have HF8:=hdq (HF7.out.below hb)
   have HB8:=hdq (zab HB7.out hb)
   rw [← HQ2.out]
   clear hb s1 y2 y3 HQ2
   cases b1 with
   | false =>
    have hv:=hdq (show R = (13,fr0) by rw [HV4.out,if_pos (fun h=>by cases h.1)])
    go_wp2_with (first | (refine zad rfl 41 _ _ rfl (w.heap.size + 3) #[.slice none 0 0,.slice none 0 0,.slice none 0 0,.int .i32 0] rfl rfl HRZ8.out (by kernel_rfl) rfl (by simp [Value.oneCell']) rfl ?_; intro wz RZ SZ))
    have x0:wz.cell? ⟨(w.heap.size + 3),0,none⟩ = some (.slice none 0 0):=RZ.cell 0
    have x1:wz.cell? ⟨(w.heap.size + 3),1,none⟩ = some (.slice none 0 0):=RZ.cell 1
    have x2:wz.cell? ⟨(w.heap.size + 3),2,none⟩ = some (.slice none 0 0):=RZ.cell 2
    have x3:wz.cell? ⟨(w.heap.size + 3),3,none⟩ = some (.int .i32 0):=RZ.cell 3
    refine bodyPost_ret (v:=.tuple #[.agg #[.slice none 0 0,.slice none 0 0,.slice none 0 0,.int .i32 0],.int .i64 13]) (by simp [results,Tryz.results12,go_sem,x0,x1,x2,x3]) rfl ⟨_,_,_,by rw [hv.out]; rfl,by rw [hv.out]; exact FrAt.zero _,SZ.below HB8.out (by omega)⟩
   | true =>
    cases b2 with
    | false =>
     have hv:=hdq (show R = (13,fr0) by rw [HV4.out,if_pos (fun h=>by cases h.2)])
     go_wp2_with (first | (refine zad rfl 41 _ _ rfl (w.heap.size + 3) #[.slice none 0 0,.slice none 0 0,.slice none 0 0,.int .i32 0] rfl rfl HRZ8.out (by kernel_rfl) rfl (by simp [Value.oneCell']) rfl ?_; intro wz RZ SZ))
     have x0:wz.cell? ⟨(w.heap.size + 3),0,none⟩ = some (.slice none 0 0):=RZ.cell 0
     have x1:wz.cell? ⟨(w.heap.size + 3),1,none⟩ = some (.slice none 0 0):=RZ.cell 1
     have x2:wz.cell? ⟨(w.heap.size + 3),2,none⟩ = some (.slice none 0 0):=RZ.cell 2
     have x3:wz.cell? ⟨(w.heap.size + 3),3,none⟩ = some (.int .i32 0):=RZ.cell 3
     refine bodyPost_ret (v:=.tuple #[.agg #[.slice none 0 0,.slice none 0 0,.slice none 0 0,.int .i32 0],.int .i64 13]) (by simp [results,Tryz.results12,go_sem,x0,x1,x2,x3]) rfl ⟨_,_,_,by rw [hv.out]; rfl,by rw [hv.out]; exact FrAt.zero _,SZ.below HB8.out (by omega)⟩
    | true =>
     have hv:=hdq (show R = (0,(⟨f.c,f.u,o.starts,o.fin⟩:Fr)) by rw [HV4.out,if_neg (fun h=>h ⟨rfl,rfl⟩)])
     go_wp2_with (first | (refine zaq (N:=86) rfl rfl 41 _ rfl w.heap.size rfl HR8.out _ Tryz.underlying41 rfl (by kernel_rfl) ?_) | (refine zad rfl 41 _ _ rfl (w.heap.size + 3) #[.slice p1 f.c.length k1,.slice p2 f.u.length k2,.slice ps o.starts.length scap,.int .i32 o.fin] rfl rfl HRZ8.out (by kernel_rfl) rfl (by simp [Value.oneCell']) rfl ?_; intro wz RZ SZ))
     have x0:wz.cell? ⟨(w.heap.size + 3),0,none⟩ = some (.slice p1 f.c.length k1):=RZ.cell 0
     have x1:wz.cell? ⟨(w.heap.size + 3),1,none⟩ = some (.slice p2 f.u.length k2):=RZ.cell 1
     have x2:wz.cell? ⟨(w.heap.size + 3),2,none⟩ = some (.slice ps o.starts.length scap):=RZ.cell 2
     have x3:wz.cell? ⟨(w.heap.size + 3),3,none⟩ = some (.int .i32 o.fin):=RZ.cell 3
     have BZ:=SZ.below HB8.out (show w.heap.size≤(w.heap.size + 3) by omega)
     refine bodyPost_ret (v:=.tuple #[.agg #[.slice p1 f.c.length k1,.slice p2 f.u.length k2,.slice ps o.starts.length scap,.int .i32 o.fin],.int .i64 0]) (by simp [results,Tryz.results12,go_sem,x0,x1,x2,x3]) rfl ⟨_,_,_,by rw [hv.out]; rfl,by rw [hv.out]; exact ⟨zcf HF8.out.1 HRZ8.out (zek .u32 (by decide) _ _ _ _ _ _ _ _ _ _) SZ,zce HF8.out.2.1 HRZ8.out (zek .u16 (by decide) _ _ _ _ _ _ _ _ _ _) SZ,HKO.out.below BZ⟩,BZ⟩
 by_cases k56:o.kind = 5∨o.kind = 6
 ·have eu:(decide (o.kind = 5) || decide (o.kind = 6)) = true:=by rcases k56 with h | h <;> rw [h] <;> rfl
  have z7:(o.kind == 7) = false:=beq_eq_false_iff_ne.2 k7
  have HRF:=hdq RF
  have HRS0:=hdq RS
  have HRZ0:=hdq RZ
  have HB0:=hdq B0
  have UN:=zpd f.u o
  have OPQ:=hdq (zna _ f.u o _ _ ((((w.alloc (.cells #[.slice p1 f.c.length k1,.slice p2 f.u.length k2,.slice p3 f.k.length k3,.int .i32 f.e] 41)).alloc (.cells #[.int .i32 s.first,.int .i32 s.last,.bool s.some] 53)).alloc (.cells #[.int .i64 o.kind,.int .u32 (o.fr:Int),.int .u32 (o.too:Int),.string o.name,.slice pp o.parts.length pcap,.slice ps o.starts.length scap,.int .i32 o.fin,.int .i64 o.pos] 47)).alloc (.cells #[.slice none 0 0,.slice none 0 0,.slice none 0 0,.int .i32 0] 41)) (HF.out.2.1.below B0) (HO.out.below B0) (by have:=HLN.out.2.1; omega) HRU.out)
  obtain ⟨E1,U2,hU⟩:∃ E1 U2,unitN f.u o = (E1,U2):=⟨_,_,rfl⟩
  rw [hU] at OPQ UN
  have HV:=hdq (show R = finN E1 (⟨f.c,U2,f.k,f.e⟩:Fr) s by rw [HRN.out]; unfold opN; rw [if_neg k7,if_pos k56,hU])
  have HUN:Hid (U2.length≤f.u.length + 1):=hdq UN
  clear RF RS RO RZ k56 k7 kb B0 hU HRN UN
  unfold rov at OPQ
  go_wp2_with fail
  refine (zba o.kind _).mono ?_
  rintro _ w1 ⟨rfl,hw1⟩
  subst hw1
  rw [eu]
  go_wp2_with fail
  refine OPQ.out.mono ?_
  rintro _ w4 ⟨v4,rfl,hN4,hb⟩
  obtain ⟨q2,j2,rfl,_⟩:=id hN4
  have HRF4:=hdq (HRF.out.below hb)
  have HN4:=hdq hN4
  have SA:=zag w.heap.size [.slice q2 U2.length j2] 1 w4
  have HB5:=hdq (SA.below (zab HB0.out hb) (Nat.le_refl _))
  have HR5:Hid (Row (w4.setCells w.heap.size 1 [.slice q2 U2.length j2]) w.heap.size #[.slice p1 f.c.length k1,.slice q2 U2.length j2,.slice p3 f.k.length k3,.int .i32 f.e] 41):=hdq (Row.setCells [.slice q2 U2.length j2] 1 HRF4.out)
  have HRS5:=hdq ((HRS0.out.below hb).stored SA (by omega))
  have HRZ5:=hdq ((HRZ0.out.below hb).stored SA (by omega))
  have HKO:=hdq HF.out.2.2
  have HF5:Hid (FrAt (w4.setCells w.heap.size 1 [.slice q2 U2.length j2]) (.slice p1 f.c.length k1) (.slice q2 U2.length j2) (.slice p3 f.k.length k3) (⟨f.c,U2,f.k,f.e⟩:Fr)):=hdq ⟨HF.out.1.below HB5.out,zce HN4.out HRF4.out (zek .u16 (by decide) _ _ _ _ _ _ _ _ _ _) SA,HF.out.2.2.below HB5.out⟩
  have HFF:Hid (Fr.fit (⟨f.c,U2,f.k,f.e⟩:Fr)):=hdq ⟨Nat.le_trans HLN.out.1 (by omega),Nat.le_trans HUN.out (by have:=HLN.out.2.1; omega),HLN.out.2.2.1⟩
  clear hN4 hb OPQ SA eu d0 d1 d2 d3 d4 d5 d6 d7 f0 f1 f2 f3
  by_cases e1:E1 = 0
  case neg =>
   have hv:=hdq (show R = (E1,fr0) by rw [HV.out]; unfold finN; rw [if_pos e1])
   have zq1:((E1:Int) == 0) = false:=beq_eq_false_iff_ne.2 (by omega)
   clear e1
   go_wp2_with (first | (refine zam rfl 35 _ _ rfl w.heap.size 1 (.slice q2 U2.length j2) rfl rfl rfl HRF4.out (by kernel_rfl) (by show 1 < 4; omega) rfl rfl ?_) | (refine zad rfl 41 _ _ rfl (w.heap.size + 3) #[.slice none 0 0,.slice none 0 0,.slice none 0 0,.int .i32 0] rfl rfl HRZ5.out (by kernel_rfl) rfl (by simp [Value.oneCell']) rfl ?_; intro wz RZ SZ))
   have x0:wz.cell? ⟨(w.heap.size + 3),0,none⟩ = some (.slice none 0 0):=RZ.cell 0
   have x1:wz.cell? ⟨(w.heap.size + 3),1,none⟩ = some (.slice none 0 0):=RZ.cell 1
   have x2:wz.cell? ⟨(w.heap.size + 3),2,none⟩ = some (.slice none 0 0):=RZ.cell 2
   have x3:wz.cell? ⟨(w.heap.size + 3),3,none⟩ = some (.int .i32 0):=RZ.cell 3
   refine bodyPost_ret (v:=.tuple #[.agg #[.slice none 0 0,.slice none 0 0,.slice none 0 0,.int .i32 0],.int .i64 (E1:Int)]) (by simp [results,Tryz.results12,go_sem,x0,x1,x2,x3]) rfl ⟨_,_,_,by rw [hv.out]; rfl,by rw [hv.out]; exact FrAt.zero _,SZ.below HB5.out (by omega)⟩
  subst e1
  have HV2:=hdq (show R = if checkF (⟨f.c,U2,f.k,f.e⟩:Fr) ≠ 0 then (checkF (⟨f.c,U2,f.k,f.e⟩:Fr),fr0) else if s.some = true∧¬ (inCal f.k f.e s.first = true∧inCal f.k f.e s.last = true) then (13,fr0) else (0,(⟨f.c,U2,f.k,f.e⟩:Fr)) by rw [HV.out]; unfold finN; rw [if_neg (by simp)])
  clear HV
  have y0:(w4.setCells w.heap.size 1 [.slice q2 U2.length j2]).cell? ⟨w.heap.size,0,none⟩ = some (.slice p1 f.c.length k1):=HR5.out.cell 0
  have y1:(w4.setCells w.heap.size 1 [.slice q2 U2.length j2]).cell? ⟨w.heap.size,1,none⟩ = some (.slice q2 U2.length j2):=HR5.out.cell 1
  have y2:(w4.setCells w.heap.size 1 [.slice q2 U2.length j2]).cell? ⟨w.heap.size,2,none⟩ = some (.slice p3 f.k.length k3):=HR5.out.cell 2
  have y3:(w4.setCells w.heap.size 1 [.slice q2 U2.length j2]).cell? ⟨w.heap.size,3,none⟩ = some (.int .i32 f.e):=HR5.out.cell 3
  go_wp2_with (first | (refine zam rfl 35 _ _ rfl w.heap.size 1 (.slice q2 U2.length j2) rfl rfl rfl HRF4.out (by kernel_rfl) (by show 1 < 4; omega) rfl rfl ?_) | fail)
  refine (zew (⟨f.c,U2,f.k,f.e⟩:Fr) _ _ _ _ HF5.out HFF.out (HGL.out.below HB5.out)).mono ?_
  rintro _ w6 ⟨rfl,hb⟩
  have HR6:=hdq (HR5.out.below hb)
  have HRS6:=hdq (HRS5.out.below hb)
  have HRZ6:=hdq (HRZ5.out.below hb)
  have HF6:=hdq (HF5.out.below hb)
  have HB6:=hdq (zab HB5.out hb)
  obtain ⟨E2,hE2⟩:∃ E2,E2 = checkF (⟨f.c,U2,f.k,f.e⟩:Fr):=⟨_,rfl⟩
  rw [← hE2] at HV2 ⊢
  have HE2:=hdq hE2
  clear hb hE2 y0 y1 y2 y3 HR5 HRS5 HRZ5 HF5 HB5
  by_cases e2:E2 = 0
  case neg =>
   have hv:=hdq (show R = (E2,fr0) by rw [HV2.out,if_pos e2])
   have zq2:((E2:Int) == 0) = false:=beq_eq_false_iff_ne.2 (by omega)
   clear e2
   go_wp2_with (first | (refine zad rfl 41 _ _ rfl (w.heap.size + 3) #[.slice none 0 0,.slice none 0 0,.slice none 0 0,.int .i32 0] rfl rfl HRZ6.out (by kernel_rfl) rfl (by simp [Value.oneCell']) rfl ?_; intro wz RZ SZ))
   have x0:wz.cell? ⟨(w.heap.size + 3),0,none⟩ = some (.slice none 0 0):=RZ.cell 0
   have x1:wz.cell? ⟨(w.heap.size + 3),1,none⟩ = some (.slice none 0 0):=RZ.cell 1
   have x2:wz.cell? ⟨(w.heap.size + 3),2,none⟩ = some (.slice none 0 0):=RZ.cell 2
   have x3:wz.cell? ⟨(w.heap.size + 3),3,none⟩ = some (.int .i32 0):=RZ.cell 3
   refine bodyPost_ret (v:=.tuple #[.agg #[.slice none 0 0,.slice none 0 0,.slice none 0 0,.int .i32 0],.int .i64 (E2:Int)]) (by simp [results,Tryz.results12,go_sem,x0,x1,x2,x3]) rfl ⟨_,_,_,by rw [hv.out]; rfl,by rw [hv.out]; exact FrAt.zero _,SZ.below HB6.out (by omega)⟩
  subst e2
  have HNR:=hdq (zeb HE2.out.symm)
  have HV3:=hdq (show R = if s.some = true∧¬ (inCal f.k f.e s.first = true∧inCal f.k f.e s.last = true) then (13,fr0) else (0,(⟨f.c,U2,f.k,f.e⟩:Fr)) by rw [HV2.out,if_neg (by simp)])
  have s2:w6.cell? ⟨(w.heap.size + 1),2,none⟩ = some (.bool s.some):=HRS6.out.cell 2
  have s0:w6.cell? ⟨(w.heap.size + 1),0,none⟩ = some (.int .i32 s.first):=HRS6.out.cell 0
  have y2:w6.cell? ⟨w.heap.size,2,none⟩ = some (.slice p3 f.k.length k3):=HR6.out.cell 2
  have y3:w6.cell? ⟨w.heap.size,3,none⟩ = some (.int .i32 f.e):=HR6.out.cell 3
  clear HV2
  obtain ⟨so,hso⟩:∃ so,so = s.some:=⟨_,rfl⟩
  rw [← hso] at HV3 s2
  clear hso
  cases so with
  | false =>
   have hv:=hdq (show R = (0,(⟨f.c,U2,f.k,f.e⟩:Fr)) by rw [HV3.out,if_neg (fun h=>by cases h.1)])
   go_wp2_with (first | (refine zaq (N:=86) rfl rfl 41 _ rfl w.heap.size rfl HR6.out _ Tryz.underlying41 rfl (by kernel_rfl) ?_) | (refine zad rfl 41 _ _ rfl (w.heap.size + 3) #[.slice p1 f.c.length k1,.slice q2 U2.length j2,.slice p3 f.k.length k3,.int .i32 f.e] rfl rfl HRZ6.out (by kernel_rfl) rfl (by simp [Value.oneCell']) rfl ?_; intro wz RZ SZ))
   have x0:wz.cell? ⟨(w.heap.size + 3),0,none⟩ = some (.slice p1 f.c.length k1):=RZ.cell 0
   have x1:wz.cell? ⟨(w.heap.size + 3),1,none⟩ = some (.slice q2 U2.length j2):=RZ.cell 1
   have x2:wz.cell? ⟨(w.heap.size + 3),2,none⟩ = some (.slice p3 f.k.length k3):=RZ.cell 2
   have x3:wz.cell? ⟨(w.heap.size + 3),3,none⟩ = some (.int .i32 f.e):=RZ.cell 3
   have BZ:=SZ.below HB6.out (show w.heap.size≤(w.heap.size + 3) by omega)
   refine bodyPost_ret (v:=.tuple #[.agg #[.slice p1 f.c.length k1,.slice q2 U2.length j2,.slice p3 f.k.length k3,.int .i32 f.e],.int .i64 0]) (by simp [results,Tryz.results12,go_sem,x0,x1,x2,x3]) rfl ⟨_,_,_,by rw [hv.out]; rfl,by rw [hv.out]; exact ⟨zcf HF6.out.1 HRZ6.out (zek .u32 (by decide) _ _ _ _ _ _ _ _ _ _) SZ,zce HF6.out.2.1 HRZ6.out (zek .u16 (by decide) _ _ _ _ _ _ _ _ _ _) SZ,HKO.out.below BZ⟩,BZ⟩
  | true =>
   go_wp2_with fail
   refine (zcp _ f.k f.e s.first w6 HF6.out.2.2 HNR.out.2 HNR.out.1).mono ?_
   rintro _ w7 ⟨n7,rfl,hb⟩
   have HR7:=hdq (HR6.out.below hb)
   have HRS7:=hdq (HRS6.out.below hb)
   have HRZ7:=hdq (HRZ6.out.below hb)
   have HF7:=hdq (HF6.out.below hb)
   have HB7:=hdq (zab HB6.out hb)
   have s1:w7.cell? ⟨(w.heap.size + 1),1,none⟩ = some (.int .i32 s.last):=HRS7.out.cell 1
   have y2:w7.cell? ⟨w.heap.size,2,none⟩ = some (.slice p3 f.k.length k3):=HR7.out.cell 2
   have y3:w7.cell? ⟨w.heap.size,3,none⟩ = some (.int .i32 f.e):=HR7.out.cell 3
   clear hb s0 s2
   obtain ⟨b1,hb1⟩:∃ b,b = inCal f.k f.e s.first:=⟨_,rfl⟩
   obtain ⟨b2,hb2⟩:∃ b,b = inCal f.k f.e s.last:=⟨_,rfl⟩
   have HV4:=hdq (show R = if ¬ (b1 = true∧b2 = true) then (13,fr0) else (0,(⟨f.c,U2,f.k,f.e⟩:Fr)) by rw [HV3.out,hb1,hb2]; simp)
   rw [← hb1]
   have HQ2:=hdq hb2
   clear HV3 hb1 hb2
   go_wp2_with fail
   refine (zcp _ f.k f.e s.last w7 HF7.out.2.2 HNR.out.2 HNR.out.1).mono ?_
   rintro _ w8 ⟨n8,rfl,hb⟩
   have HR8:=hdq (HR7.out.below hb)
   have HRZ8:=hdq (HRZ7.out.below hb)
   have HF8:=hdq (HF7.out.below hb)
   have HB8:=hdq (zab HB7.out hb)
   rw [← HQ2.out]
   clear hb s1 y2 y3 HQ2
   cases b1 with
   | false =>
    have hv:=hdq (show R = (13,fr0) by rw [HV4.out,if_pos (fun h=>by cases h.1)])
    go_wp2_with (first | (refine zad rfl 41 _ _ rfl (w.heap.size + 3) #[.slice none 0 0,.slice none 0 0,.slice none 0 0,.int .i32 0] rfl rfl HRZ8.out (by kernel_rfl) rfl (by simp [Value.oneCell']) rfl ?_; intro wz RZ SZ))
    have x0:wz.cell? ⟨(w.heap.size + 3),0,none⟩ = some (.slice none 0 0):=RZ.cell 0
    have x1:wz.cell? ⟨(w.heap.size + 3),1,none⟩ = some (.slice none 0 0):=RZ.cell 1
    have x2:wz.cell? ⟨(w.heap.size + 3),2,none⟩ = some (.slice none 0 0):=RZ.cell 2
    have x3:wz.cell? ⟨(w.heap.size + 3),3,none⟩ = some (.int .i32 0):=RZ.cell 3
    refine bodyPost_ret (v:=.tuple #[.agg #[.slice none 0 0,.slice none 0 0,.slice none 0 0,.int .i32 0],.int .i64 13]) (by simp [results,Tryz.results12,go_sem,x0,x1,x2,x3]) rfl ⟨_,_,_,by rw [hv.out]; rfl,by rw [hv.out]; exact FrAt.zero _,SZ.below HB8.out (by omega)⟩
   | true =>
    cases b2 with
    | false =>
     have hv:=hdq (show R = (13,fr0) by rw [HV4.out,if_pos (fun h=>by cases h.2)])
     go_wp2_with (first | (refine zad rfl 41 _ _ rfl (w.heap.size + 3) #[.slice none 0 0,.slice none 0 0,.slice none 0 0,.int .i32 0] rfl rfl HRZ8.out (by kernel_rfl) rfl (by simp [Value.oneCell']) rfl ?_; intro wz RZ SZ))
     have x0:wz.cell? ⟨(w.heap.size + 3),0,none⟩ = some (.slice none 0 0):=RZ.cell 0
     have x1:wz.cell? ⟨(w.heap.size + 3),1,none⟩ = some (.slice none 0 0):=RZ.cell 1
     have x2:wz.cell? ⟨(w.heap.size + 3),2,none⟩ = some (.slice none 0 0):=RZ.cell 2
     have x3:wz.cell? ⟨(w.heap.size + 3),3,none⟩ = some (.int .i32 0):=RZ.cell 3
     refine bodyPost_ret (v:=.tuple #[.agg #[.slice none 0 0,.slice none 0 0,.slice none 0 0,.int .i32 0],.int .i64 13]) (by simp [results,Tryz.results12,go_sem,x0,x1,x2,x3]) rfl ⟨_,_,_,by rw [hv.out]; rfl,by rw [hv.out]; exact FrAt.zero _,SZ.below HB8.out (by omega)⟩
    | true =>
     have hv:=hdq (show R = (0,(⟨f.c,U2,f.k,f.e⟩:Fr)) by rw [HV4.out,if_neg (fun h=>h ⟨rfl,rfl⟩)])
     go_wp2_with (first | (refine zaq (N:=86) rfl rfl 41 _ rfl w.heap.size rfl HR8.out _ Tryz.underlying41 rfl (by kernel_rfl) ?_) | (refine zad rfl 41 _ _ rfl (w.heap.size + 3) #[.slice p1 f.c.length k1,.slice q2 U2.length j2,.slice p3 f.k.length k3,.int .i32 f.e] rfl rfl HRZ8.out (by kernel_rfl) rfl (by simp [Value.oneCell']) rfl ?_; intro wz RZ SZ))
     have x0:wz.cell? ⟨(w.heap.size + 3),0,none⟩ = some (.slice p1 f.c.length k1):=RZ.cell 0
     have x1:wz.cell? ⟨(w.heap.size + 3),1,none⟩ = some (.slice q2 U2.length j2):=RZ.cell 1
     have x2:wz.cell? ⟨(w.heap.size + 3),2,none⟩ = some (.slice p3 f.k.length k3):=RZ.cell 2
     have x3:wz.cell? ⟨(w.heap.size + 3),3,none⟩ = some (.int .i32 f.e):=RZ.cell 3
     have BZ:=SZ.below HB8.out (show w.heap.size≤(w.heap.size + 3) by omega)
     refine bodyPost_ret (v:=.tuple #[.agg #[.slice p1 f.c.length k1,.slice q2 U2.length j2,.slice p3 f.k.length k3,.int .i32 f.e],.int .i64 0]) (by simp [results,Tryz.results12,go_sem,x0,x1,x2,x3]) rfl ⟨_,_,_,by rw [hv.out]; rfl,by rw [hv.out]; exact ⟨zcf HF8.out.1 HRZ8.out (zek .u32 (by decide) _ _ _ _ _ _ _ _ _ _) SZ,zce HF8.out.2.1 HRZ8.out (zek .u16 (by decide) _ _ _ _ _ _ _ _ _ _) SZ,HKO.out.below BZ⟩,BZ⟩
 have eu:(decide (o.kind = 5) || decide (o.kind = 6)) = false:=by rw [decide_eq_false (fun h=>k56 (.inl h)),decide_eq_false (fun h=>k56 (.inr h))]; rfl
 have z7:(o.kind == 7) = false:=beq_eq_false_iff_ne.2 k7
 have HRF:=hdq RF
 have HRS0:=hdq RS
 have HRZ0:=hdq RZ
 have HB0:=hdq B0
 obtain ⟨pc,kc,epc,hE⟩:=HF.out.1.below B0
 injection epc with epc1 _ epc3
 subst epc1
 subst epc3
 have OPQ:=hdq (zkz p1 k1 f.c o _ _ ((((w.alloc (.cells #[.slice p1 f.c.length k1,.slice p2 f.u.length k2,.slice p3 f.k.length k3,.int .i32 f.e] 41)).alloc (.cells #[.int .i32 s.first,.int .i32 s.last,.bool s.some] 53)).alloc (.cells #[.int .i64 o.kind,.int .u32 (o.fr:Int),.int .u32 (o.too:Int),.string o.name,.slice pp o.parts.length pcap,.slice ps o.starts.length scap,.int .i32 o.fin,.int .i64 o.pos] 47)).alloc (.cells #[.slice none 0 0,.slice none 0 0,.slice none 0 0,.int .i32 0] 41)) hE (HO.out.below B0) (by have:=HLN.out.1; omega) HRC.out)
 have UN:=zor 1000000000 f.c o HLN.out.2.2.1 HLN.out.2.2.2.1
 obtain ⟨E1,C2,hU⟩:∃ E1 C2,chartN f.c o = (E1,C2):=⟨_,_,rfl⟩
 rw [hU] at OPQ UN
 have HV:=hdq (show R = finN E1 (⟨C2,f.u,f.k,f.e⟩:Fr) s by rw [HRN.out]; unfold opN; rw [if_neg k7,if_neg k56,hU])
 have HUN:Hid (nameIn 1000000000 C2∧C2.length≤f.c.length + 1 + o.parts.length):=hdq UN
 clear RF RS RO RZ k56 k7 kb B0 hU HRN UN hE
 unfold rov at OPQ
 go_wp2_with fail
 refine (zba o.kind _).mono ?_
 rintro _ w1 ⟨rfl,hw1⟩
 subst hw1
 rw [eu]
 go_wp2_with fail
 refine OPQ.out.mono ?_
 rintro _ w4 ⟨v4,rfl,hN4,hb⟩
 obtain ⟨q1,j1,rfl,_⟩:=id hN4
 have HRF4:=hdq (HRF.out.below hb)
 have HN4:=hdq hN4
 have SA:=zag w.heap.size [.slice q1 C2.length j1] 0 w4
 have HB5:=hdq (SA.below (zab HB0.out hb) (Nat.le_refl _))
 have HR5:Hid (Row (w4.setCells w.heap.size 0 [.slice q1 C2.length j1]) w.heap.size #[.slice q1 C2.length j1,.slice p2 f.u.length k2,.slice p3 f.k.length k3,.int .i32 f.e] 41):=hdq (Row.setCells [.slice q1 C2.length j1] 0 HRF4.out)
 have HRS5:=hdq ((HRS0.out.below hb).stored SA (by omega))
 have HRZ5:=hdq ((HRZ0.out.below hb).stored SA (by omega))
 have HKO:=hdq HF.out.2.2
 have HF5:Hid (FrAt (w4.setCells w.heap.size 0 [.slice q1 C2.length j1]) (.slice q1 C2.length j1) (.slice p2 f.u.length k2) (.slice p3 f.k.length k3) (⟨C2,f.u,f.k,f.e⟩:Fr)):=hdq ⟨zcf HN4.out HRF4.out (zek .u32 (by decide) _ _ _ _ _ _ _ _ _ _) SA,HF.out.2.1.below HB5.out,HF.out.2.2.below HB5.out⟩
 have HFF:Hid (Fr.fit (⟨C2,f.u,f.k,f.e⟩:Fr)):=hdq ⟨Nat.le_trans HUN.out.2 (by have:=HLN.out.1; have:=HLN.out.2.2.2.2; omega),Nat.le_trans HLN.out.2.1 (by omega),HUN.out.1⟩
 clear hN4 hb OPQ SA eu d0 d1 d2 d3 d4 d5 d6 d7 f0 f1 f2 f3
 by_cases e1:E1 = 0
 case neg =>
  have hv:=hdq (show R = (E1,fr0) by rw [HV.out]; unfold finN; rw [if_pos e1])
  have zq1:((E1:Int) == 0) = false:=beq_eq_false_iff_ne.2 (by omega)
  clear e1
  go_wp2_with (first | (refine zam rfl 34 _ _ rfl w.heap.size 0 (.slice q1 C2.length j1) rfl rfl rfl HRF4.out (by kernel_rfl) (by show 0 < 4; omega) rfl rfl ?_) | (refine zad rfl 41 _ _ rfl (w.heap.size + 3) #[.slice none 0 0,.slice none 0 0,.slice none 0 0,.int .i32 0] rfl rfl HRZ5.out (by kernel_rfl) rfl (by simp [Value.oneCell']) rfl ?_; intro wz RZ SZ))
  have x0:wz.cell? ⟨(w.heap.size + 3),0,none⟩ = some (.slice none 0 0):=RZ.cell 0
  have x1:wz.cell? ⟨(w.heap.size + 3),1,none⟩ = some (.slice none 0 0):=RZ.cell 1
  have x2:wz.cell? ⟨(w.heap.size + 3),2,none⟩ = some (.slice none 0 0):=RZ.cell 2
  have x3:wz.cell? ⟨(w.heap.size + 3),3,none⟩ = some (.int .i32 0):=RZ.cell 3
  refine bodyPost_ret (v:=.tuple #[.agg #[.slice none 0 0,.slice none 0 0,.slice none 0 0,.int .i32 0],.int .i64 (E1:Int)]) (by simp [results,Tryz.results12,go_sem,x0,x1,x2,x3]) rfl ⟨_,_,_,by rw [hv.out]; rfl,by rw [hv.out]; exact FrAt.zero _,SZ.below HB5.out (by omega)⟩
 subst e1
 have HV2:=hdq (show R = if checkF (⟨C2,f.u,f.k,f.e⟩:Fr) ≠ 0 then (checkF (⟨C2,f.u,f.k,f.e⟩:Fr),fr0) else if s.some = true∧¬ (inCal f.k f.e s.first = true∧inCal f.k f.e s.last = true) then (13,fr0) else (0,(⟨C2,f.u,f.k,f.e⟩:Fr)) by rw [HV.out]; unfold finN; rw [if_neg (by simp)])
 clear HV
 have y0:(w4.setCells w.heap.size 0 [.slice q1 C2.length j1]).cell? ⟨w.heap.size,0,none⟩ = some (.slice q1 C2.length j1):=HR5.out.cell 0
 have y1:(w4.setCells w.heap.size 0 [.slice q1 C2.length j1]).cell? ⟨w.heap.size,1,none⟩ = some (.slice p2 f.u.length k2):=HR5.out.cell 1
 have y2:(w4.setCells w.heap.size 0 [.slice q1 C2.length j1]).cell? ⟨w.heap.size,2,none⟩ = some (.slice p3 f.k.length k3):=HR5.out.cell 2
 have y3:(w4.setCells w.heap.size 0 [.slice q1 C2.length j1]).cell? ⟨w.heap.size,3,none⟩ = some (.int .i32 f.e):=HR5.out.cell 3
 go_wp2_with (first | (refine zam rfl 34 _ _ rfl w.heap.size 0 (.slice q1 C2.length j1) rfl rfl rfl HRF4.out (by kernel_rfl) (by show 0 < 4; omega) rfl rfl ?_) | fail)
 refine (zew (⟨C2,f.u,f.k,f.e⟩:Fr) _ _ _ _ HF5.out HFF.out (HGL.out.below HB5.out)).mono ?_
 rintro _ w6 ⟨rfl,hb⟩
 have HR6:=hdq (HR5.out.below hb)
 have HRS6:=hdq (HRS5.out.below hb)
 have HRZ6:=hdq (HRZ5.out.below hb)
 have HF6:=hdq (HF5.out.below hb)
 have HB6:=hdq (zab HB5.out hb)
 obtain ⟨E2,hE2⟩:∃ E2,E2 = checkF (⟨C2,f.u,f.k,f.e⟩:Fr):=⟨_,rfl⟩
 rw [← hE2] at HV2 ⊢
 have HE2:=hdq hE2
 clear hb hE2 y0 y1 y2 y3 HR5 HRS5 HRZ5 HF5 HB5
 by_cases e2:E2 = 0
 case neg =>
  have hv:=hdq (show R = (E2,fr0) by rw [HV2.out,if_pos e2])
  have zq2:((E2:Int) == 0) = false:=beq_eq_false_iff_ne.2 (by omega)
  clear e2
  go_wp2_with (first | (refine zad rfl 41 _ _ rfl (w.heap.size + 3) #[.slice none 0 0,.slice none 0 0,.slice none 0 0,.int .i32 0] rfl rfl HRZ6.out (by kernel_rfl) rfl (by simp [Value.oneCell']) rfl ?_; intro wz RZ SZ))
  have x0:wz.cell? ⟨(w.heap.size + 3),0,none⟩ = some (.slice none 0 0):=RZ.cell 0
  have x1:wz.cell? ⟨(w.heap.size + 3),1,none⟩ = some (.slice none 0 0):=RZ.cell 1
  have x2:wz.cell? ⟨(w.heap.size + 3),2,none⟩ = some (.slice none 0 0):=RZ.cell 2
  have x3:wz.cell? ⟨(w.heap.size + 3),3,none⟩ = some (.int .i32 0):=RZ.cell 3
  refine bodyPost_ret (v:=.tuple #[.agg #[.slice none 0 0,.slice none 0 0,.slice none 0 0,.int .i32 0],.int .i64 (E2:Int)]) (by simp [results,Tryz.results12,go_sem,x0,x1,x2,x3]) rfl ⟨_,_,_,by rw [hv.out]; rfl,by rw [hv.out]; exact FrAt.zero _,SZ.below HB6.out (by omega)⟩
 subst e2
 have HNR:=hdq (zeb HE2.out.symm)
 have HV3:=hdq (show R = if s.some = true∧¬ (inCal f.k f.e s.first = true∧inCal f.k f.e s.last = true) then (13,fr0) else (0,(⟨C2,f.u,f.k,f.e⟩:Fr)) by rw [HV2.out,if_neg (by simp)])
 have s2:w6.cell? ⟨(w.heap.size + 1),2,none⟩ = some (.bool s.some):=HRS6.out.cell 2
 have s0:w6.cell? ⟨(w.heap.size + 1),0,none⟩ = some (.int .i32 s.first):=HRS6.out.cell 0
 have y2:w6.cell? ⟨w.heap.size,2,none⟩ = some (.slice p3 f.k.length k3):=HR6.out.cell 2
 have y3:w6.cell? ⟨w.heap.size,3,none⟩ = some (.int .i32 f.e):=HR6.out.cell 3
 clear HV2
 obtain ⟨so,hso⟩:∃ so,so = s.some:=⟨_,rfl⟩
 rw [← hso] at HV3 s2
 clear hso
 cases so with
 | false =>
  have hv:=hdq (show R = (0,(⟨C2,f.u,f.k,f.e⟩:Fr)) by rw [HV3.out,if_neg (fun h=>by cases h.1)])
  go_wp2_with (first | (refine zaq (N:=86) rfl rfl 41 _ rfl w.heap.size rfl HR6.out _ Tryz.underlying41 rfl (by kernel_rfl) ?_) | (refine zad rfl 41 _ _ rfl (w.heap.size + 3) #[.slice q1 C2.length j1,.slice p2 f.u.length k2,.slice p3 f.k.length k3,.int .i32 f.e] rfl rfl HRZ6.out (by kernel_rfl) rfl (by simp [Value.oneCell']) rfl ?_; intro wz RZ SZ))
  have x0:wz.cell? ⟨(w.heap.size + 3),0,none⟩ = some (.slice q1 C2.length j1):=RZ.cell 0
  have x1:wz.cell? ⟨(w.heap.size + 3),1,none⟩ = some (.slice p2 f.u.length k2):=RZ.cell 1
  have x2:wz.cell? ⟨(w.heap.size + 3),2,none⟩ = some (.slice p3 f.k.length k3):=RZ.cell 2
  have x3:wz.cell? ⟨(w.heap.size + 3),3,none⟩ = some (.int .i32 f.e):=RZ.cell 3
  have BZ:=SZ.below HB6.out (show w.heap.size≤(w.heap.size + 3) by omega)
  refine bodyPost_ret (v:=.tuple #[.agg #[.slice q1 C2.length j1,.slice p2 f.u.length k2,.slice p3 f.k.length k3,.int .i32 f.e],.int .i64 0]) (by simp [results,Tryz.results12,go_sem,x0,x1,x2,x3]) rfl ⟨_,_,_,by rw [hv.out]; rfl,by rw [hv.out]; exact ⟨zcf HF6.out.1 HRZ6.out (zek .u32 (by decide) _ _ _ _ _ _ _ _ _ _) SZ,zce HF6.out.2.1 HRZ6.out (zek .u16 (by decide) _ _ _ _ _ _ _ _ _ _) SZ,HKO.out.below BZ⟩,BZ⟩
 | true =>
  go_wp2_with fail
  refine (zcp _ f.k f.e s.first w6 HF6.out.2.2 HNR.out.2 HNR.out.1).mono ?_
  rintro _ w7 ⟨n7,rfl,hb⟩
  have HR7:=hdq (HR6.out.below hb)
  have HRS7:=hdq (HRS6.out.below hb)
  have HRZ7:=hdq (HRZ6.out.below hb)
  have HF7:=hdq (HF6.out.below hb)
  have HB7:=hdq (zab HB6.out hb)
  have s1:w7.cell? ⟨(w.heap.size + 1),1,none⟩ = some (.int .i32 s.last):=HRS7.out.cell 1
  have y2:w7.cell? ⟨w.heap.size,2,none⟩ = some (.slice p3 f.k.length k3):=HR7.out.cell 2
  have y3:w7.cell? ⟨w.heap.size,3,none⟩ = some (.int .i32 f.e):=HR7.out.cell 3
  clear hb s0 s2
  obtain ⟨b1,hb1⟩:∃ b,b = inCal f.k f.e s.first:=⟨_,rfl⟩
  obtain ⟨b2,hb2⟩:∃ b,b = inCal f.k f.e s.last:=⟨_,rfl⟩
  have HV4:=hdq (show R = if ¬ (b1 = true∧b2 = true) then (13,fr0) else (0,(⟨C2,f.u,f.k,f.e⟩:Fr)) by rw [HV3.out,hb1,hb2]; simp)
  rw [← hb1]
  have HQ2:=hdq hb2
  clear HV3 hb1 hb2
  go_wp2_with fail
  refine (zcp _ f.k f.e s.last w7 HF7.out.2.2 HNR.out.2 HNR.out.1).mono ?_
  rintro _ w8 ⟨n8,rfl,hb⟩
  have HR8:=hdq (HR7.out.below hb)
  have HRZ8:=hdq (HRZ7.out.below hb)
  have HF8:=hdq (HF7.out.below hb)
  have HB8:=hdq (zab HB7.out hb)
  rw [← HQ2.out]
  clear hb s1 y2 y3 HQ2
  cases b1 with
  | false =>
   have hv:=hdq (show R = (13,fr0) by rw [HV4.out,if_pos (fun h=>by cases h.1)])
   go_wp2_with (first | (refine zad rfl 41 _ _ rfl (w.heap.size + 3) #[.slice none 0 0,.slice none 0 0,.slice none 0 0,.int .i32 0] rfl rfl HRZ8.out (by kernel_rfl) rfl (by simp [Value.oneCell']) rfl ?_; intro wz RZ SZ))
   have x0:wz.cell? ⟨(w.heap.size + 3),0,none⟩ = some (.slice none 0 0):=RZ.cell 0
   have x1:wz.cell? ⟨(w.heap.size + 3),1,none⟩ = some (.slice none 0 0):=RZ.cell 1
   have x2:wz.cell? ⟨(w.heap.size + 3),2,none⟩ = some (.slice none 0 0):=RZ.cell 2
   have x3:wz.cell? ⟨(w.heap.size + 3),3,none⟩ = some (.int .i32 0):=RZ.cell 3
   refine bodyPost_ret (v:=.tuple #[.agg #[.slice none 0 0,.slice none 0 0,.slice none 0 0,.int .i32 0],.int .i64 13]) (by simp [results,Tryz.results12,go_sem,x0,x1,x2,x3]) rfl ⟨_,_,_,by rw [hv.out]; rfl,by rw [hv.out]; exact FrAt.zero _,SZ.below HB8.out (by omega)⟩
  | true =>
   cases b2 with
   | false =>
    have hv:=hdq (show R = (13,fr0) by rw [HV4.out,if_pos (fun h=>by cases h.2)])
    go_wp2_with (first | (refine zad rfl 41 _ _ rfl (w.heap.size + 3) #[.slice none 0 0,.slice none 0 0,.slice none 0 0,.int .i32 0] rfl rfl HRZ8.out (by kernel_rfl) rfl (by simp [Value.oneCell']) rfl ?_; intro wz RZ SZ))
    have x0:wz.cell? ⟨(w.heap.size + 3),0,none⟩ = some (.slice none 0 0):=RZ.cell 0
    have x1:wz.cell? ⟨(w.heap.size + 3),1,none⟩ = some (.slice none 0 0):=RZ.cell 1
    have x2:wz.cell? ⟨(w.heap.size + 3),2,none⟩ = some (.slice none 0 0):=RZ.cell 2
    have x3:wz.cell? ⟨(w.heap.size + 3),3,none⟩ = some (.int .i32 0):=RZ.cell 3
    refine bodyPost_ret (v:=.tuple #[.agg #[.slice none 0 0,.slice none 0 0,.slice none 0 0,.int .i32 0],.int .i64 13]) (by simp [results,Tryz.results12,go_sem,x0,x1,x2,x3]) rfl ⟨_,_,_,by rw [hv.out]; rfl,by rw [hv.out]; exact FrAt.zero _,SZ.below HB8.out (by omega)⟩
   | true =>
    have hv:=hdq (show R = (0,(⟨C2,f.u,f.k,f.e⟩:Fr)) by rw [HV4.out,if_neg (fun h=>h ⟨rfl,rfl⟩)])
    go_wp2_with (first | (refine zaq (N:=86) rfl rfl 41 _ rfl w.heap.size rfl HR8.out _ Tryz.underlying41 rfl (by kernel_rfl) ?_) | (refine zad rfl 41 _ _ rfl (w.heap.size + 3) #[.slice q1 C2.length j1,.slice p2 f.u.length k2,.slice p3 f.k.length k3,.int .i32 f.e] rfl rfl HRZ8.out (by kernel_rfl) rfl (by simp [Value.oneCell']) rfl ?_; intro wz RZ SZ))
    have x0:wz.cell? ⟨(w.heap.size + 3),0,none⟩ = some (.slice q1 C2.length j1):=RZ.cell 0
    have x1:wz.cell? ⟨(w.heap.size + 3),1,none⟩ = some (.slice p2 f.u.length k2):=RZ.cell 1
    have x2:wz.cell? ⟨(w.heap.size + 3),2,none⟩ = some (.slice p3 f.k.length k3):=RZ.cell 2
    have x3:wz.cell? ⟨(w.heap.size + 3),3,none⟩ = some (.int .i32 f.e):=RZ.cell 3
    have BZ:=SZ.below HB8.out (show w.heap.size≤(w.heap.size + 3) by omega)
    refine bodyPost_ret (v:=.tuple #[.agg #[.slice q1 C2.length j1,.slice p2 f.u.length k2,.slice p3 f.k.length k3,.int .i32 f.e],.int .i64 0]) (by simp [results,Tryz.results12,go_sem,x0,x1,x2,x3]) rfl ⟨_,_,_,by rw [hv.out]; rfl,by rw [hv.out]; exact ⟨zcf HF8.out.1 HRZ8.out (zek .u32 (by decide) _ _ _ _ _ _ _ _ _ _) SZ,zce HF8.out.2.1 HRZ8.out (zek .u16 (by decide) _ _ _ _ _ _ _ _ _ _) SZ,HKO.out.below BZ⟩,BZ⟩
abbrev opQ (o:Sc.Op) (a b v1 v2:Value) (f:Int):Array Value:=#[.int .i64 (o.kind:Int),a,b,.string ⟨o.name.toArray⟩,v1,v2,.int .i32 f,.int .i64 (o.pos:Int)]
theorem zeg {w:World} {v:Value} {l:List (Nat × Nat)} (h:PtsAt w v l):PisAt w v (l.map fun p=>(p.1,(p.2:Int))):=by
 obtain ⟨p,cap,e,h⟩:=h
 refine ⟨p,cap,by rw [List.length_map]; exact e,?_⟩
 rcases h with h | ⟨b,off,h1,h2⟩
 ·exact .inl (by rw [h]; rfl)
 ·refine .inr ⟨b,off,h1,fun i hi=>?_⟩
  rw [List.length_map] at hi
  have e:(l.map fun p=>(p.1,(p.2:Int))).getD i (0,0) = ((l.getD i (0,0)).1,((l.getD i (0,0)).2:Int)):=by
   rw [List.getD_eq_getElem?_getD,List.getD_eq_getElem?_getD,List.getElem?_map,List.getElem?_eq_getElem hi]; rfl
  rw [e]
  exact h2 i hi
theorem zhv (n:Int):IntKind.i16.wrap n = (n + 32768) % 65536 - 32768:=by
 simp [IntKind.wrap,IntKind.bits,IntKind.signed]
 split <;> omega
def NearOk (w:World) (e:Ending) (w':World):Prop:=∃ (r:RO) (v1 v2:Value),e = .returned (.agg (rov r v1 v2).toArray)∧okR w' r v1 v2∧0≤r.kind∧r.kind < 8∧r.name.size≤1000∧r.parts.length≤1000∧Below w.heap.size w w'
theorem zci (x:Sc.O):(Sc.raw x).kind = x.kind % 8:=by
 unfold Sc.raw
 by_cases h1:x.kind % 8 = 1
 ·rw [if_pos h1,h1]; rfl
 rw [if_neg h1]
 by_cases h4:x.kind % 8 = 4
 ·rw [if_pos h4,h4]; rfl
 rw [if_neg h4]
 by_cases h7:x.kind % 8 = 7
 ·rw [if_pos h7,h7]; rfl
 rw [if_neg h7]
 by_cases h2:x.kind % 8 = 2
 ·rw [if_pos h2,h2]; rfl
 rw [if_neg h2]
 rfl
theorem zap {w w':World} {g:Nat} {r r':RO} {q1 q2:Option Addr} {n1 n2 k1 k2:Nat} (h:okR w r (.slice q1 n1 k1) (.slice q2 n2 k2)) (h1:∀ b off,q1 = some ⟨b,off,none⟩→b ≠ g) (h2:∀ b off,q2 = some ⟨b,off,none⟩→b ≠ g) (hp:r'.parts = r.parts) (hs:r'.starts = r.starts) (hS:Stored w g w'):okR w' r' (.slice q1 n1 k1) (.slice q2 n2 k2):=by
 obtain ⟨⟨p,cap,e,hP⟩,⟨p',cap',e',hN⟩⟩:=h
 injection e with e1 e2 e3
 injection e' with e1' e2' e3'
 subst e1; subst e1'
 refine ⟨⟨q1,cap,by rw [hp,e2,e3],?_⟩,⟨q2,cap',by rw [hs,e2',e3'],?_⟩⟩
 ·rw [hp]
  rcases hP with h | ⟨b,off,a,c⟩
  ·exact .inl h
  ·refine .inr ⟨b,off,a,fun i hi j v hj=>?_⟩
   have hc:=c i hi j v hj
   have hh:w'.heap[b]? = w.heap[b]?:=hS.other b (h1 b off a)
   unfold World.cell? at hc ⊢
   rw [hh]
   exact hc
 ·rw [hs]
  rcases hN with h | ⟨b,off,a,c⟩
  ·exact .inl h
  ·refine .inr ⟨b,off,a,fun i hi=>?_⟩
   have hc:=c i hi
   have hh:w'.heap[b]? = w.heap[b]?:=hS.other b (h2 b off a)
   unfold World.cell? at hc ⊢
   rw [hh]
   exact hc
theorem zbk {w w':World} {g b off:Nat} {v:Value} (h:w.cell? ⟨b,off,none⟩ = some v) (S:Stored w g w') (hb:b ≠ g):w'.cell? ⟨b,off,none⟩ = some v:=by
 have hh:w'.heap[b]? = w.heap[b]?:=S.other b hb
 unfold World.cell? at h ⊢
 rw [hh]
 exact h
theorem zjy {P:Program} {ops:Array Oper} {T:Value→World→Prop} {o:Oper} {F:Act} {w:World} (hw:Region.wanted o (yielded ops F.tmps) = true) (Ty:TypeId) (x y:Operand) (ho:o.op = .store Ty x y) (g k:Nat) (cells:List Value) (hx:F.eval x = .pointer (some ⟨g,k,none⟩)) (hy:F.eval y = .agg cells.toArray)
  {t:TypeId} {old:Array Value} (R:Row w g old t) (hi:(P.info? Ty).map (·.size) = some cells.length) (hold:k + cells.length≤old.size) (h1:∀ v ∈ cells,v.oneCell' = true) (hT:T undef (w.setCells g k cells)):YieldsX P ops T o F w:=by
 have hst:=run_storeCells_cells (P:=P) g k cells 0 w (fun j hj=>by rw [R.cell,Array.getElem?_eq_getElem (by omega)]; rfl) (fun j hj=>frozen_of_row w g _ old t R) h1
 have hsv:(storeVar Ty ⟨g,k,none⟩ (.agg cells.toArray)).run P w = .ok () (w.setCells g k cells):=by
  cases hq:P.info? Ty with
  | none=>simp [hq] at hi
  | some i =>
   have hs:i.size = cells.length:=by simpa [hq] using hi
   simp [storeVar,sizeOf,typeInfo,hq,Value.cells,hs]
   simpa using hst
 refine .inr (.inr (.inl ⟨hw,w.setCells g k cells,?_,hT⟩))
 unfold execOp
 simp only [ho,hx,hy,Instr.storeAt,Instr.sureAddr,Sem.run_bind,Sem.run_pure,Result.andThen_ok,hsv]
set_option maxHeartbeats 16000000 in
set_option maxRecDepth 100000 in
theorem near_0 (c:List Ac) (u kk:List Int) (cv uv kv:Value) (en:Int) (x:Sc.O) (vp vl:Value) (w:World) (hc:CsAt w cv c) (hu:NsAt .u16 w uv u) (hk:NsAt .i32 w kv kk) (hc0:0 < c.length) (hc1:c.length≤1000) (hu0:0 < u.length) (hu1:u.length≤1000) (hub:∀ z ∈ u,0≤z∧z≤65535) (hk0:0 < kk.length) (hk1:kk.length≤1000) (hx:x.ok) (hP:PosAt w vp x.parts) (hL:NsAt .u8 w vl x.long) (hxk:x.kind % 8 = 0) :
  Calls Tryz.prog 11 #[.agg #[cv,uv,kv,.int .i32 en],.agg (ov x vp vl).toArray] w (NearOk w):=by
 obtain ⟨pc,cc,rfl,hEc⟩:=hc
 obtain ⟨pu,cu,rfl,hEu⟩:=hu
 obtain ⟨pk,ck,rfl,hEk⟩:=hk
 obtain ⟨bc,oc,rfl,hcc⟩:∃ b o,pc = some ⟨b,o,none⟩∧∀ i,i < c.length→w.rangeAt b (o + i * 4) (ac (c.getD i ac0)):=by
  rcases hEc with h | h
  ·rw [h] at hc0; simp at hc0
  ·exact h
 obtain ⟨bu,ou,rfl,huu⟩:∃ b o,pu = some ⟨b,o,none⟩∧∀ i,i < u.length→w.cell? ⟨b,o + i,none⟩ = some (.int .u16 (u.getD i 0)):=by
  rcases hEu with h | h
  ·rw [h] at hu0; simp at hu0
  ·exact h
 obtain ⟨bk,ok,rfl,hkk⟩:∃ b o,pk = some ⟨b,o,none⟩∧∀ i,i < kk.length→w.cell? ⟨b,o + i,none⟩ = some (.int .i32 (kk.getD i 0)):=by
  rcases hEk with h | h
  ·rw [h] at hk0; simp at hk0
  ·exact h
 have HRAW:=hdq fun W (hb:Below w.heap.size w W)=>zdx x hx vp vl W (hP.below hb) (hL.below hb)
 obtain ⟨pp,cp,rfl,_⟩:=id hP
 obtain ⟨pl,cl,rfl,_⟩:=id hL
 obtain ⟨np,hnp⟩:∃ n,n = x.parts.length:=⟨_,rfl⟩
 have HCU:=hdq (And.intro hcc (And.intro huu hkk))
 have HLN:=hdq (And.intro hc0 (And.intro hc1 (And.intro hu0 (And.intro hu1 (And.intro hk0 hk1)))))
 have HUB:=hdq hub
 have HX:=hdq hx
 have HLL:=hdq hL
 have HCAN:=hdq (Sc.raw_can x hx)
 have hkx:(Sc.raw x).kind = x.kind % 8:=zci x
 obtain ⟨o,ho⟩:∃ o,o = Sc.raw x:=⟨_,rfl⟩
 rw [← ho] at HCAN hkx HRAW
 have HKX:=hdq hkx
 unfold ov at *
 rw [← hnp] at HRAW ⊢
 have HOO:=hdq ho
 obtain ⟨w0,hw0⟩:∃ w0,w0 = ((w.alloc (.cells #[.slice (some ⟨bc,oc,none⟩) c.length cc,.slice (some ⟨bu,ou,none⟩) u.length cu,.slice (some ⟨bk,ok,none⟩) kk.length ck,.int .i32 en] 41)).alloc (.cells #[.int .u8 (x.kind:Int),.int .u8 (x.a:Int),.int .u8 (x.b:Int),.int .u8 (x.nm:Int),.slice pp np cp,.int .i16 x.first,.slice pl x.long.length cl] 31)).alloc (.cells #[.int .i64 0,.int .u32 0,.int .u32 0,.string ⟨#[]⟩,.slice none 0 0,.slice none 0 0,.int .i32 0,.int .i64 0] 47):=⟨_,rfl⟩
 have hsz0:w0.heap.size = w.heap.size + 3:=by rw [hw0]; simp
 have B0:Below w.heap.size w w0:=by rw [hw0]; exact zaa (zaa (zaa (Below.refl _ w) _) _) _
 have RF:Row w0 w.heap.size #[.slice (some ⟨bc,oc,none⟩) c.length cc,.slice (some ⟨bu,ou,none⟩) u.length cu,.slice (some ⟨bk,ok,none⟩) kk.length ck,.int .i32 en] 41:=by rw [hw0]; exact ((Row.new w _ _).alloc _).alloc _
 have RX:Row w0 (w.heap.size + 1) #[.int .u8 (x.kind:Int),.int .u8 (x.a:Int),.int .u8 (x.b:Int),.int .u8 (x.nm:Int),.slice pp np cp,.int .i16 x.first,.slice pl x.long.length cl] 31:=by rw [hw0]; exact (Row.new' _ _ _ (by simp)).alloc _
 have RZ:Row w0 (w.heap.size + 2) #[.int .i64 0,.int .u32 0,.int .u32 0,.string ⟨#[]⟩,.slice none 0 0,.slice none 0 0,.int .i32 0,.int .i64 0] 47:=by rw [hw0]; exact Row.new' _ _ _ (by simp)
 have HB0:=hdq B0
 have HRF0:=hdq RF
 have HRX0:=hdq RX
 have HRZ0:=hdq RZ
 clear hEc hEu hEk hcc huu hkk hc0 hc1 hu0 hu1 hub hk0 hk1 hx hP hL B0 RF RX RZ ho hnp hkx
 go_enter Tryz.func11,Tryz.ntmps11
 have y0:w0.cell? ⟨(w.heap.size + 1),0,none⟩ = some (.int .u8 (x.kind:Int)):=HRX0.out.cell 0
 have y1:w0.cell? ⟨(w.heap.size + 1),1,none⟩ = some (.int .u8 (x.a:Int)):=HRX0.out.cell 1
 have y2:w0.cell? ⟨(w.heap.size + 1),2,none⟩ = some (.int .u8 (x.b:Int)):=HRX0.out.cell 2
 have y3:w0.cell? ⟨(w.heap.size + 1),3,none⟩ = some (.int .u8 (x.nm:Int)):=HRX0.out.cell 3
 have y4:w0.cell? ⟨(w.heap.size + 1),4,none⟩ = some (.slice pp np cp):=HRX0.out.cell 4
 have y5:w0.cell? ⟨(w.heap.size + 1),5,none⟩ = some (.int .i16 x.first):=HRX0.out.cell 5
 have y6:w0.cell? ⟨(w.heap.size + 1),6,none⟩ = some (.slice pl x.long.length cl):=HRX0.out.cell 6
 rw [hw0] at y0 y1 y2 y3 y4 y5 y6
 go_wp2_with fail
 rw [← hw0]
 refine (HRAW.out _ HB0.out).mono ?_
 clear y0 y1 y2 y3 y4 y5 y6
 rintro _ w1 ⟨v1,v2,rfl,hP1,hN2,hfr1,hfr2,hb⟩
 obtain ⟨q1,k1,rfl,hx1⟩:=id hP1
 obtain ⟨q2,k2,rfl,hx2⟩:=id hN2
 obtain ⟨n1,hn1⟩:∃ n,n = o.parts.length:=⟨_,rfl⟩
 obtain ⟨n2,hn2⟩:∃ n,n = o.starts.length:=⟨_,rfl⟩
 rw [← hn1] at hP1 hfr1 ⊢
 rw [← hn2] at hN2 hfr2 ⊢
 have HN12:=hdq (And.intro hn1 hn2)
 unfold opc
 clear hx1 hx2 hn1 hn2
 replace hfr1:∀ g,(Value.slice q1 n1 k1).ownBlock = some g→w.heap.size + 3≤g∧g < w1.heap.size:=fun g e=>by have:=hfr1 g e; omega
 replace hfr2:∀ g,(Value.slice q2 n2 k2).ownBlock = some g→w.heap.size + 3≤g∧g < w1.heap.size:=fun g e=>by have:=hfr2 g e; omega
 obtain ⟨g5,hg5⟩:∃ g,g = w1.heap.size:=⟨_,rfl⟩
 obtain ⟨w2,hw2⟩:∃ w2,w2 = w1.alloc (.cells #[.int .i64 (o.kind:Int),.int .u32 (o.fr:Int),.int .u32 (o.too:Int),.string ⟨o.name.toArray⟩,.slice q1 n1 k1,.slice q2 n2 k2,.int .i32 o.fin,.int .i64 (o.pos:Int)] 47):=⟨_,rfl⟩
 have R5:Row w2 g5 (opQ o (.int .u32 (o.fr:Int)) (.int .u32 (o.too:Int)) (.slice q1 n1 k1) (.slice q2 n2 k2) o.fin) 47:=by rw [hg5,hw2]; exact Row.new w1 _ _
 have HR5:=hdq R5
 have HRF1:=hdq (show Row w2 w.heap.size #[.slice (some ⟨bc,oc,none⟩) c.length cc,.slice (some ⟨bu,ou,none⟩) u.length cu,.slice (some ⟨bk,ok,none⟩) kk.length ck,.int .i32 en] 41 by rw [hw2]; exact (HRF0.out.below hb).alloc _)
 have HRX1:=hdq (show Row w2 (w.heap.size + 1) #[.int .u8 (x.kind:Int),.int .u8 (x.a:Int),.int .u8 (x.b:Int),.int .u8 (x.nm:Int),.slice pp np cp,.int .i16 x.first,.slice pl x.long.length cl] 31 by rw [hw2]; exact (HRX0.out.below hb).alloc _)
 have HRZ1:=hdq (show Row w2 (w.heap.size + 2) #[.int .i64 0,.int .u32 0,.int .u32 0,.string ⟨#[]⟩,.slice none 0 0,.slice none 0 0,.int .i32 0,.int .i64 0] 47 by rw [hw2]; exact (HRZ0.out.below hb).alloc _)
 have HB1:=hdq (show Below w.heap.size w w2 by rw [hw2]; exact zaa (zab HB0.out hb) _)
 have HG5:=hdq (show (w.heap.size + 2) < g5 by have:=(HRZ0.out.below hb).lt; omega)
 have hok1:okR w2 (⟨(o.kind:Int),o.fr,o.too,⟨o.name.toArray⟩,o.parts.map fun p=>(p.1,(p.2:Int)),o.starts,o.fin,(o.pos:Int)⟩:RO) (.slice q1 n1 k1) (.slice q2 n2 k2):=by rw [hw2]; exact ⟨(zeg hP1).below (zaa (Below.refl _ w1) _),hN2.below (zaa (Below.refl _ w1) _)⟩
 have HOK:=hdq hok1
 have hoff:(∀ b off,q1 = some ⟨b,off,none⟩→b ≠ g5∧b ≠ (w.heap.size + 2))∧∀ b off,q2 = some ⟨b,off,none⟩→b ≠ g5∧b ≠ (w.heap.size + 2):=by
  have hz:=(HRZ0.out.below (Below.refl _ _)).lt
  have hz2:w0.heap.size = (w.heap.size + 2) + 1:=by rw [hw0]; simp
  refine ⟨fun b off e=>?_,fun b off e=>?_⟩
  ·subst e
   have:=hfr1 b rfl
   omega
  ·subst e
   have:=hfr2 b rfl
   omega
 have HOFF:=hdq hoff
 have f0:w2.cell? ⟨w.heap.size,0,none⟩ = some (.slice (some ⟨bc,oc,none⟩) c.length cc):=HRF1.out.cell 0
 have f1:w2.cell? ⟨w.heap.size,1,none⟩ = some (.slice (some ⟨bu,ou,none⟩) u.length cu):=HRF1.out.cell 1
 have f2:w2.cell? ⟨w.heap.size,2,none⟩ = some (.slice (some ⟨bk,ok,none⟩) kk.length ck):=HRF1.out.cell 2
 have f3:w2.cell? ⟨w.heap.size,3,none⟩ = some (.int .i32 en):=HRF1.out.cell 3
 have x1:w2.cell? ⟨(w.heap.size + 1),1,none⟩ = some (.int .u8 (x.a:Int)):=HRX1.out.cell 1
 have x2:w2.cell? ⟨(w.heap.size + 1),2,none⟩ = some (.int .u8 (x.b:Int)):=HRX1.out.cell 2
 have x6:w2.cell? ⟨(w.heap.size + 1),6,none⟩ = some (.slice pl x.long.length cl):=HRX1.out.cell 6
 have d0:w2.cell? ⟨g5,0,none⟩ = some (.int .i64 (o.kind:Int)):=R5.cell 0
 rw [hg5] at d0
 rw [hw2] at d0 f0 f1 f2 f3 x1 x2 x6
 have l1:((c.length:Int) == 0) = false:=beq_eq_false_iff_ne.2 (by have:=HLN.out; omega)
 have l2:((u.length:Int) == 0) = false:=beq_eq_false_iff_ne.2 (by have:=HLN.out; omega)
 have e0:((o.kind:Int) == 0) = true:=by rw [HKX.out,hxk]; rfl
 have e1:((o.kind:Int) == 1) = false:=beq_eq_false_iff_ne.2 (by rw [HKX.out]; omega)
 have e2:((o.kind:Int) == 2) = false:=beq_eq_false_iff_ne.2 (by rw [HKX.out]; omega)
 have e3:((o.kind:Int) == 3) = false:=beq_eq_false_iff_ne.2 (by rw [HKX.out]; omega)
 have e4:((o.kind:Int) == 4) = false:=beq_eq_false_iff_ne.2 (by rw [HKX.out]; omega)
 have e5:((o.kind:Int) == 5) = false:=beq_eq_false_iff_ne.2 (by rw [HKX.out]; omega)
 have e6:((o.kind:Int) == 6) = false:=beq_eq_false_iff_ne.2 (by rw [HKX.out]; omega)
 have e7:((o.kind:Int) == 7) = false:=beq_eq_false_iff_ne.2 (by rw [HKX.out]; omega)
 clear R5 hb hP1 hN2 hok1 hoff hfr1 hfr2
 go_wp2_with fail
 rw [← hg5]
 rw [← hw2]
 clear hg5 f0 f1 f2 f3 x1 x2 x6 d0 hw2 hw0 HRF0 HRX0 HRZ0 HB0
 obtain ⟨ra,hra⟩:∃ r,r = x.a % c.length:=⟨_,rfl⟩
 have hra2:ra < c.length:=by rw [hra]; exact Nat.mod_lt _ (by have:=HLN.out; omega)
 have mra:((x.a:Nat):Int).tmod (c.length:Int) = (ra:Int):=by rw [Int.tmod_eq_emod_of_nonneg (by omega),hra]; rfl
 have kra1:(0:Int)≤(ra:Int):=by omega
 have kra2:(ra:Int) < (c.length:Int):=by omega
 have qa:IntKind.i64.wrap (x.a:Int) = (x.a:Int):=by have:=HX.out.a; rw [IntKind.wrap_i64]; omega
 have q3:¬ c = []:=fun e=>by have:=HLN.out; rw [e] at this; simp at this
 obtain ⟨cd,hcd⟩:∃ z,z = (c.getD ra ac0).code:=⟨_,rfl⟩
 have ca:=zae (HCU.out.1 ra hra2 0 _ rfl) HB1.out
 rw [← hcd] at ca
 have HBU:=hdq (show bc < w.heap.size from by
  have:=HCU.out.1 ra hra2 0 _ rfl
  obtain ⟨c',e',fr',hb',_⟩:=Sort.cells_of_cell? this
  exact (Array.getElem?_eq_some_iff.1 hb').1)
 have HCA:=hdq ca
 have HRA:=hdq hra2
 clear hra hra2 hcd ca
 refine zbe (n:=14) 13 20 (by kernel_rfl) (fun w1 w2=>w2 = w1) (fun w1=>Stored w2 g5 w1∧Row w1 g5 (opQ o (.int .u32 (o.fr:Int)) (.int .u32 (o.too:Int)) (.slice q1 n1 k1) (.slice q2 n2 k2) o.fin) 47) (fun i w1 v=>v = (#[.pointer (some ⟨w.heap.size,0,none⟩),.slice (some ⟨bc,oc,none⟩) c.length cc,.pointer (some ⟨(w.heap.size + 1),1,none⟩),.int .u8 (x.a:Int),.int .i64 (x.a:Int),.pointer (some ⟨w.heap.size,0,none⟩),.slice (some ⟨bc,oc,none⟩) c.length cc,.int .i64 (c.length:Int),.int .i64 (ra:Int),.pointer (some ⟨bc,oc + ra * 4,none⟩),.pointer (some ⟨bc,oc + ra * 4,none⟩),.int .u32 (cd:Int),.pointer (some ⟨g5,1,none⟩)]:Array Value).getD i undef)
  (fun cz v w1=>Stored w2 g5 w1∧Row w1 g5 (opQ o (.int .u32 (cd:Int)) (.int .u32 (o.too:Int)) (.slice q1 n1 k1) (.slice q2 n2 k2) o.fin) 47) (by kernel_rfl) (by kernel_rfl) (by kernel_rfl) ⟨zbh (Stored.refl _ _),HR5.out⟩ rfl (fun w1 w2 a e=>e ▸ a) (fun i w1 w2 v e h=>h) ?_
 intro F Fz hF hFz
 simp only [fill,updV,dstAt] at hF hFz
 simp [Act.put] at hF hFz
 obtain rfl:F = fun cz=>_:=funext fun cz=>(hF cz).symm
 obtain rfl:Fz = fun cz v=>_:=funext fun cz=>funext fun v=>(hFz cz v).symm
 clear hF hFz
 refine ⟨?_,?_,?_⟩
 ·rintro i op ho nez cz wx ⟨S,RGv⟩ hG
  have RFx:=HRF1.out.stored S (by have:=HG5.out; omega)
  have RXx:=HRX1.out.stored S (by have:=HG5.out; omega)
  have f0:wx.cell? ⟨w.heap.size,0,none⟩ = some (.slice (some ⟨bc,oc,none⟩) c.length cc):=RFx.cell 0
  have x1:wx.cell? ⟨(w.heap.size + 1),1,none⟩ = some (.int .u8 (x.a:Int)):=RXx.cell 1
  have ea:wx.cell? ⟨bc,oc + ra * 4,none⟩ = some (.int .u32 (cd:Int)):=zbk HCA.out S (by have:=HBU.out; have:=HG5.out; omega)
  rcases i with _ | _ | _ | _ | _ | _ | _ | _ | _ | _ | _ | _ | _ | _ | i
  all_goals (first | (exact absurd rfl nez) | (simp at ho; done) | (obtain rfl:=Option.some.inj ho))
  ·exact zac (.pointer (some ⟨w.heap.size,0,none⟩)) rfl (by go_simp) ⟨rfl,rfl⟩
  ·have g0:cz 0 = .pointer (some ⟨w.heap.size,0,none⟩):=hG 0 rfl (by omega)
   exact zac (.slice (some ⟨bc,oc,none⟩) c.length cc) rfl (by simp only [g0]; go_simp) ⟨rfl,rfl⟩
  ·exact zac (.pointer (some ⟨(w.heap.size + 1),1,none⟩)) rfl (by go_simp) ⟨rfl,rfl⟩
  ·have g2:cz 2 = .pointer (some ⟨(w.heap.size + 1),1,none⟩):=hG 2 rfl (by omega)
   exact zac (.int .u8 (x.a:Int)) rfl (by simp only [g2]; go_simp) ⟨rfl,rfl⟩
  ·have g3:cz 3 = .int .u8 (x.a:Int):=hG 3 rfl (by omega)
   exact zac (.int .i64 (x.a:Int)) rfl (by simp only [g3]; go_simp) ⟨rfl,rfl⟩
  ·exact zac (.pointer (some ⟨w.heap.size,0,none⟩)) rfl (by go_simp) ⟨rfl,rfl⟩
  ·have g5:cz 5 = .pointer (some ⟨w.heap.size,0,none⟩):=hG 5 rfl (by omega)
   exact zac (.slice (some ⟨bc,oc,none⟩) c.length cc) rfl (by simp only [g5]; go_simp) ⟨rfl,rfl⟩
  ·have g6:cz 6 = .slice (some ⟨bc,oc,none⟩) c.length cc:=hG 6 rfl (by omega)
   exact zac (.int .i64 (c.length:Int)) rfl (by simp only [g6]; go_simp) ⟨rfl,rfl⟩
  ·have g4:cz 4 = .int .i64 (x.a:Int):=hG 4 rfl (by omega)
   have g7:cz 7 = .int .i64 (c.length:Int):=hG 7 rfl (by omega)
   exact zac (.int .i64 (ra:Int)) rfl (by simp only [g4,g7]; go_simp) ⟨rfl,rfl⟩
  ·have g1:cz 1 = .slice (some ⟨bc,oc,none⟩) c.length cc:=hG 1 rfl (by omega)
   have g8:cz 8 = .int .i64 (ra:Int):=hG 8 rfl (by omega)
   exact zac (.pointer (some ⟨bc,oc + ra * 4,none⟩)) rfl (by simp only [g1,g8]; go_simp) ⟨rfl,rfl⟩
  ·have g9:cz 9 = .pointer (some ⟨bc,oc + ra * 4,none⟩):=hG 9 rfl (by omega)
   exact zac (.pointer (some ⟨bc,oc + ra * 4,none⟩)) rfl (by simp only [g9]; go_simp) ⟨rfl,rfl⟩
  ·have g10:cz 10 = .pointer (some ⟨bc,oc + ra * 4,none⟩):=hG 10 rfl (by omega)
   exact zac (.int .u32 (cd:Int)) rfl (by simp only [g10]; go_simp) ⟨rfl,rfl⟩
  ·exact zac (.pointer (some ⟨g5,1,none⟩)) rfl (by go_simp) ⟨rfl,rfl⟩
 ·rintro op ho cz wx ⟨S,RGv⟩ hG
  obtain rfl:=Option.some.inj ho
  have g12:cz 12 = .pointer (some ⟨g5,1,none⟩):=hG 12 (by omega) (by omega)
  have g11:cz 11 = .int .u32 (cd:Int):=hG 11 (by omega) (by omega)
  have vo:wx.cell? ⟨g5,1,none⟩ = some (.int .u32 (o.fr:Int)):=RGv.cell 1
  have fz:wx.frozen? ⟨g5,1,none⟩ = false:=RGv.frozen 1
  exact zbu (wx.setCell ⟨g5,1,none⟩ (.int .u32 (cd:Int))) rfl (by simp only [g12,g11]; go_simp) ⟨S.trans (zaf _ _ _ _),RGv.set 1 (.int .u32 (cd:Int))⟩
 ·rintro cz v w3 ⟨S3,R3⟩
  have HS3:=hdq S3
  have HR3:=hdq R3
  have HRZ3:=hdq (HRZ1.out.stored S3 (by have:=HG5.out; omega))
  have HRX3:=hdq (HRX1.out.stored S3 (by have:=HG5.out; omega))
  have HRF3:=hdq (HRF1.out.stored S3 (by have:=HG5.out; omega))
  have HB3:=hdq (S3.below HB1.out (by have:=HG5.out; omega))
  clear S3 R3 qa q3 mra kra1 HCA
  have d0:w3.cell? ⟨g5,0,none⟩ = some (.int .i64 (o.kind:Int)):=HR3.out.cell 0
  have x2:w3.cell? ⟨(w.heap.size + 1),2,none⟩ = some (.int .u8 (x.b:Int)):=HRX3.out.cell 2
  have wq1:IntKind.u32.wrap (x.b:Int) = (x.b:Int):=by have:=HX.out.b; rw [IntKind.wrap_u32]; omega
  have wq2:IntKind.u32.wrap (1000 + (x.b:Int)) = ((1000 + x.b:Nat):Int):=by have:=HX.out.b; rw [IntKind.wrap_u32]; omega
  have S4:=zag g5 [.int .u32 ((1000 + x.b:Nat):Int)] 2 w3
  have R4:Row (w3.setCells g5 2 [.int .u32 ((1000 + x.b:Nat):Int)]) g5 (opQ o (.int .u32 (cd:Int)) (.int .u32 ((1000 + x.b:Nat):Int)) (.slice q1 n1 k1) (.slice q2 n2 k2) o.fin) 47:=Row.setCells [.int .u32 ((1000 + x.b:Nat):Int)] 2 HR3.out
  have HR4:=hdq R4
  have HRZ4:=hdq (HRZ3.out.stored S4 (by have:=HG5.out; omega))
  have HB4:=hdq (S4.below HB3.out (by have:=HG5.out; omega))
  have HS4:=hdq (HS3.out.trans S4)
  clear S4 R4
  have HOK2:Hid (okR (w3.setCells g5 2 [.int .u32 ((1000 + x.b:Nat):Int)]) (⟨(o.kind:Int),cd,(1000 + x.b),⟨o.name.toArray⟩,o.parts.map fun p=>(p.1,(p.2:Int)),o.starts,o.fin,(o.pos:Int)⟩:RO) (.slice q1 n1 k1) (.slice q2 n2 k2)):=hdq (zap HOK.out (fun b off e=>(HOFF.out.1 b off e).1) (fun b off e=>(HOFF.out.2 b off e).1) rfl rfl HS4.out)
  go_wp2_with (first | (refine zam rfl 44 _ _ rfl g5 2 (.int .u32 ((1000 + x.b:Nat):Int)) rfl rfl rfl HR3.out (by kernel_rfl) (by show 2 < 8; omega) rfl rfl ?_) | (refine zaq (N:=202) rfl rfl 47 _ rfl g5 rfl HR4.out _ Tryz.underlying47 rfl (by kernel_rfl) ?_) | (refine zad rfl 47 _ _ rfl (w.heap.size + 2) (opQ o (.int .u32 (cd:Int)) (.int .u32 ((1000 + x.b:Nat):Int)) (.slice q1 n1 k1) (.slice q2 n2 k2) o.fin) rfl rfl HRZ4.out (by kernel_rfl) rfl (by simp [opQ,Value.oneCell']) rfl ?_; intro wz RZ SZ))
  have BZ:=SZ.below HB4.out (show w.heap.size≤(w.heap.size + 2) by omega)
  refine bodyPost_ret (v:=.agg (opQ o (.int .u32 (cd:Int)) (.int .u32 ((1000 + x.b:Nat):Int)) (.slice q1 n1 k1) (.slice q2 n2 k2) o.fin)) (zau rfl _ _ RZ rfl Tryz.underlying47 rfl (by kernel_rfl)) rfl ⟨(⟨(o.kind:Int),cd,(1000 + x.b),⟨o.name.toArray⟩,o.parts.map fun p=>(p.1,(p.2:Int)),o.starts,o.fin,(o.pos:Int)⟩:RO),_,_,rfl,?_,by show (0:Int)≤(o.kind:Int); omega,by show (o.kind:Int) < 8; have:=HCAN.out.kind; omega,by have:=HCAN.out.name; simpa [ByteArray.size] using Nat.le_trans this (by omega),by show (o.parts.map _).length≤1000; rw [List.length_map]; have:=HCAN.out.parts.2.1; omega,BZ⟩
  exact zap HOK2.out (fun b off e=>(HOFF.out.1 b off e).2) (fun b off e=>(HOFF.out.2 b off e).2) rfl rfl SZ
set_option maxHeartbeats 16000000 in
set_option maxRecDepth 100000 in
theorem near_1 (c:List Ac) (u kk:List Int) (cv uv kv:Value) (en:Int) (x:Sc.O) (vp vl:Value) (w:World) (hc:CsAt w cv c) (hu:NsAt .u16 w uv u) (hk:NsAt .i32 w kv kk) (hc0:0 < c.length) (hc1:c.length≤1000) (hu0:0 < u.length) (hu1:u.length≤1000) (hub:∀ z ∈ u,0≤z∧z≤65535) (hk0:0 < kk.length) (hk1:kk.length≤1000) (hx:x.ok) (hP:PosAt w vp x.parts) (hL:NsAt .u8 w vl x.long) (hxk:x.kind % 8 = 1) :
  Calls Tryz.prog 11 #[.agg #[cv,uv,kv,.int .i32 en],.agg (ov x vp vl).toArray] w (NearOk w):=by
 obtain ⟨pc,cc,rfl,hEc⟩:=hc
 obtain ⟨pu,cu,rfl,hEu⟩:=hu
 obtain ⟨pk,ck,rfl,hEk⟩:=hk
 obtain ⟨bc,oc,rfl,hcc⟩:∃ b o,pc = some ⟨b,o,none⟩∧∀ i,i < c.length→w.rangeAt b (o + i * 4) (ac (c.getD i ac0)):=by
  rcases hEc with h | h
  ·rw [h] at hc0; simp at hc0
  ·exact h
 obtain ⟨bu,ou,rfl,huu⟩:∃ b o,pu = some ⟨b,o,none⟩∧∀ i,i < u.length→w.cell? ⟨b,o + i,none⟩ = some (.int .u16 (u.getD i 0)):=by
  rcases hEu with h | h
  ·rw [h] at hu0; simp at hu0
  ·exact h
 obtain ⟨bk,ok,rfl,hkk⟩:∃ b o,pk = some ⟨b,o,none⟩∧∀ i,i < kk.length→w.cell? ⟨b,o + i,none⟩ = some (.int .i32 (kk.getD i 0)):=by
  rcases hEk with h | h
  ·rw [h] at hk0; simp at hk0
  ·exact h
 have HRAW:=hdq fun W (hb:Below w.heap.size w W)=>zdx x hx vp vl W (hP.below hb) (hL.below hb)
 obtain ⟨pp,cp,rfl,_⟩:=id hP
 obtain ⟨pl,cl,rfl,_⟩:=id hL
 obtain ⟨np,hnp⟩:∃ n,n = x.parts.length:=⟨_,rfl⟩
 have HCU:=hdq (And.intro hcc (And.intro huu hkk))
 have HLN:=hdq (And.intro hc0 (And.intro hc1 (And.intro hu0 (And.intro hu1 (And.intro hk0 hk1)))))
 have HUB:=hdq hub
 have HX:=hdq hx
 have HLL:=hdq hL
 have HCAN:=hdq (Sc.raw_can x hx)
 have hkx:(Sc.raw x).kind = x.kind % 8:=zci x
 obtain ⟨o,ho⟩:∃ o,o = Sc.raw x:=⟨_,rfl⟩
 rw [← ho] at HCAN hkx HRAW
 have HKX:=hdq hkx
 unfold ov at *
 rw [← hnp] at HRAW ⊢
 have HOO:=hdq ho
 obtain ⟨w0,hw0⟩:∃ w0,w0 = ((w.alloc (.cells #[.slice (some ⟨bc,oc,none⟩) c.length cc,.slice (some ⟨bu,ou,none⟩) u.length cu,.slice (some ⟨bk,ok,none⟩) kk.length ck,.int .i32 en] 41)).alloc (.cells #[.int .u8 (x.kind:Int),.int .u8 (x.a:Int),.int .u8 (x.b:Int),.int .u8 (x.nm:Int),.slice pp np cp,.int .i16 x.first,.slice pl x.long.length cl] 31)).alloc (.cells #[.int .i64 0,.int .u32 0,.int .u32 0,.string ⟨#[]⟩,.slice none 0 0,.slice none 0 0,.int .i32 0,.int .i64 0] 47):=⟨_,rfl⟩
 have hsz0:w0.heap.size = w.heap.size + 3:=by rw [hw0]; simp
 have B0:Below w.heap.size w w0:=by rw [hw0]; exact zaa (zaa (zaa (Below.refl _ w) _) _) _
 have RF:Row w0 w.heap.size #[.slice (some ⟨bc,oc,none⟩) c.length cc,.slice (some ⟨bu,ou,none⟩) u.length cu,.slice (some ⟨bk,ok,none⟩) kk.length ck,.int .i32 en] 41:=by rw [hw0]; exact ((Row.new w _ _).alloc _).alloc _
 have RX:Row w0 (w.heap.size + 1) #[.int .u8 (x.kind:Int),.int .u8 (x.a:Int),.int .u8 (x.b:Int),.int .u8 (x.nm:Int),.slice pp np cp,.int .i16 x.first,.slice pl x.long.length cl] 31:=by rw [hw0]; exact (Row.new' _ _ _ (by simp)).alloc _
 have RZ:Row w0 (w.heap.size + 2) #[.int .i64 0,.int .u32 0,.int .u32 0,.string ⟨#[]⟩,.slice none 0 0,.slice none 0 0,.int .i32 0,.int .i64 0] 47:=by rw [hw0]; exact Row.new' _ _ _ (by simp)
 have HB0:=hdq B0
 have HRF0:=hdq RF
 have HRX0:=hdq RX
 have HRZ0:=hdq RZ
 clear hEc hEu hEk hcc huu hkk hc0 hc1 hu0 hu1 hub hk0 hk1 hx hP hL B0 RF RX RZ ho hnp hkx
 go_enter Tryz.func11,Tryz.ntmps11
 have y0:w0.cell? ⟨(w.heap.size + 1),0,none⟩ = some (.int .u8 (x.kind:Int)):=HRX0.out.cell 0
 have y1:w0.cell? ⟨(w.heap.size + 1),1,none⟩ = some (.int .u8 (x.a:Int)):=HRX0.out.cell 1
 have y2:w0.cell? ⟨(w.heap.size + 1),2,none⟩ = some (.int .u8 (x.b:Int)):=HRX0.out.cell 2
 have y3:w0.cell? ⟨(w.heap.size + 1),3,none⟩ = some (.int .u8 (x.nm:Int)):=HRX0.out.cell 3
 have y4:w0.cell? ⟨(w.heap.size + 1),4,none⟩ = some (.slice pp np cp):=HRX0.out.cell 4
 have y5:w0.cell? ⟨(w.heap.size + 1),5,none⟩ = some (.int .i16 x.first):=HRX0.out.cell 5
 have y6:w0.cell? ⟨(w.heap.size + 1),6,none⟩ = some (.slice pl x.long.length cl):=HRX0.out.cell 6
 rw [hw0] at y0 y1 y2 y3 y4 y5 y6
 go_wp2_with fail
 rw [← hw0]
 refine (HRAW.out _ HB0.out).mono ?_
 clear y0 y1 y2 y3 y4 y5 y6
 rintro _ w1 ⟨v1,v2,rfl,hP1,hN2,hfr1,hfr2,hb⟩
 obtain ⟨q1,k1,rfl,hx1⟩:=id hP1
 obtain ⟨q2,k2,rfl,hx2⟩:=id hN2
 obtain ⟨n1,hn1⟩:∃ n,n = o.parts.length:=⟨_,rfl⟩
 obtain ⟨n2,hn2⟩:∃ n,n = o.starts.length:=⟨_,rfl⟩
 rw [← hn1] at hP1 hfr1 ⊢
 rw [← hn2] at hN2 hfr2 ⊢
 have HN12:=hdq (And.intro hn1 hn2)
 unfold opc
 clear hx1 hx2 hn1 hn2
 replace hfr1:∀ g,(Value.slice q1 n1 k1).ownBlock = some g→w.heap.size + 3≤g∧g < w1.heap.size:=fun g e=>by have:=hfr1 g e; omega
 replace hfr2:∀ g,(Value.slice q2 n2 k2).ownBlock = some g→w.heap.size + 3≤g∧g < w1.heap.size:=fun g e=>by have:=hfr2 g e; omega
 obtain ⟨g5,hg5⟩:∃ g,g = w1.heap.size:=⟨_,rfl⟩
 obtain ⟨w2,hw2⟩:∃ w2,w2 = w1.alloc (.cells #[.int .i64 (o.kind:Int),.int .u32 (o.fr:Int),.int .u32 (o.too:Int),.string ⟨o.name.toArray⟩,.slice q1 n1 k1,.slice q2 n2 k2,.int .i32 o.fin,.int .i64 (o.pos:Int)] 47):=⟨_,rfl⟩
 have R5:Row w2 g5 (opQ o (.int .u32 (o.fr:Int)) (.int .u32 (o.too:Int)) (.slice q1 n1 k1) (.slice q2 n2 k2) o.fin) 47:=by rw [hg5,hw2]; exact Row.new w1 _ _
 have HR5:=hdq R5
 have HRF1:=hdq (show Row w2 w.heap.size #[.slice (some ⟨bc,oc,none⟩) c.length cc,.slice (some ⟨bu,ou,none⟩) u.length cu,.slice (some ⟨bk,ok,none⟩) kk.length ck,.int .i32 en] 41 by rw [hw2]; exact (HRF0.out.below hb).alloc _)
 have HRX1:=hdq (show Row w2 (w.heap.size + 1) #[.int .u8 (x.kind:Int),.int .u8 (x.a:Int),.int .u8 (x.b:Int),.int .u8 (x.nm:Int),.slice pp np cp,.int .i16 x.first,.slice pl x.long.length cl] 31 by rw [hw2]; exact (HRX0.out.below hb).alloc _)
 have HRZ1:=hdq (show Row w2 (w.heap.size + 2) #[.int .i64 0,.int .u32 0,.int .u32 0,.string ⟨#[]⟩,.slice none 0 0,.slice none 0 0,.int .i32 0,.int .i64 0] 47 by rw [hw2]; exact (HRZ0.out.below hb).alloc _)
 have HB1:=hdq (show Below w.heap.size w w2 by rw [hw2]; exact zaa (zab HB0.out hb) _)
 have HG5:=hdq (show (w.heap.size + 2) < g5 by have:=(HRZ0.out.below hb).lt; omega)
 have hok1:okR w2 (⟨(o.kind:Int),o.fr,o.too,⟨o.name.toArray⟩,o.parts.map fun p=>(p.1,(p.2:Int)),o.starts,o.fin,(o.pos:Int)⟩:RO) (.slice q1 n1 k1) (.slice q2 n2 k2):=by rw [hw2]; exact ⟨(zeg hP1).below (zaa (Below.refl _ w1) _),hN2.below (zaa (Below.refl _ w1) _)⟩
 have HOK:=hdq hok1
 have hoff:(∀ b off,q1 = some ⟨b,off,none⟩→b ≠ g5∧b ≠ (w.heap.size + 2))∧∀ b off,q2 = some ⟨b,off,none⟩→b ≠ g5∧b ≠ (w.heap.size + 2):=by
  have hz:=(HRZ0.out.below (Below.refl _ _)).lt
  have hz2:w0.heap.size = (w.heap.size + 2) + 1:=by rw [hw0]; simp
  refine ⟨fun b off e=>?_,fun b off e=>?_⟩
  ·subst e
   have:=hfr1 b rfl
   omega
  ·subst e
   have:=hfr2 b rfl
   omega
 have HOFF:=hdq hoff
 have f0:w2.cell? ⟨w.heap.size,0,none⟩ = some (.slice (some ⟨bc,oc,none⟩) c.length cc):=HRF1.out.cell 0
 have f1:w2.cell? ⟨w.heap.size,1,none⟩ = some (.slice (some ⟨bu,ou,none⟩) u.length cu):=HRF1.out.cell 1
 have f2:w2.cell? ⟨w.heap.size,2,none⟩ = some (.slice (some ⟨bk,ok,none⟩) kk.length ck):=HRF1.out.cell 2
 have f3:w2.cell? ⟨w.heap.size,3,none⟩ = some (.int .i32 en):=HRF1.out.cell 3
 have x1:w2.cell? ⟨(w.heap.size + 1),1,none⟩ = some (.int .u8 (x.a:Int)):=HRX1.out.cell 1
 have x2:w2.cell? ⟨(w.heap.size + 1),2,none⟩ = some (.int .u8 (x.b:Int)):=HRX1.out.cell 2
 have x6:w2.cell? ⟨(w.heap.size + 1),6,none⟩ = some (.slice pl x.long.length cl):=HRX1.out.cell 6
 have d0:w2.cell? ⟨g5,0,none⟩ = some (.int .i64 (o.kind:Int)):=R5.cell 0
 rw [hg5] at d0
 rw [hw2] at d0 f0 f1 f2 f3 x1 x2 x6
 have l1:((c.length:Int) == 0) = false:=beq_eq_false_iff_ne.2 (by have:=HLN.out; omega)
 have l2:((u.length:Int) == 0) = false:=beq_eq_false_iff_ne.2 (by have:=HLN.out; omega)
 have e1:((o.kind:Int) == 1) = true:=by rw [HKX.out,hxk]; rfl
 have e0:((o.kind:Int) == 0) = false:=beq_eq_false_iff_ne.2 (by rw [HKX.out]; omega)
 have e2:((o.kind:Int) == 2) = false:=beq_eq_false_iff_ne.2 (by rw [HKX.out]; omega)
 have e3:((o.kind:Int) == 3) = false:=beq_eq_false_iff_ne.2 (by rw [HKX.out]; omega)
 have e4:((o.kind:Int) == 4) = false:=beq_eq_false_iff_ne.2 (by rw [HKX.out]; omega)
 have e5:((o.kind:Int) == 5) = false:=beq_eq_false_iff_ne.2 (by rw [HKX.out]; omega)
 have e6:((o.kind:Int) == 6) = false:=beq_eq_false_iff_ne.2 (by rw [HKX.out]; omega)
 have e7:((o.kind:Int) == 7) = false:=beq_eq_false_iff_ne.2 (by rw [HKX.out]; omega)
 clear R5 hb hP1 hN2 hok1 hoff hfr1 hfr2
 go_wp2_with fail
 rw [← hg5]
 rw [← hw2]
 clear hg5 f0 f1 f2 f3 x1 x2 x6 d0 hw2 hw0 HRF0 HRX0 HRZ0 HB0
 obtain ⟨ra,hra⟩:∃ r,r = x.a % c.length:=⟨_,rfl⟩
 have hra2:ra < c.length:=by rw [hra]; exact Nat.mod_lt _ (by have:=HLN.out; omega)
 have mra:((x.a:Nat):Int).tmod (c.length:Int) = (ra:Int):=by rw [Int.tmod_eq_emod_of_nonneg (by omega),hra]; rfl
 have kra1:(0:Int)≤(ra:Int):=by omega
 have kra2:(ra:Int) < (c.length:Int):=by omega
 have qa:IntKind.i64.wrap (x.a:Int) = (x.a:Int):=by have:=HX.out.a; rw [IntKind.wrap_i64]; omega
 have q3:¬ c = []:=fun e=>by have:=HLN.out; rw [e] at this; simp at this
 obtain ⟨cd,hcd⟩:∃ z,z = (c.getD ra ac0).code:=⟨_,rfl⟩
 have ca:=zae (HCU.out.1 ra hra2 0 _ rfl) HB1.out
 rw [← hcd] at ca
 have HBU:=hdq (show bc < w.heap.size from by
  have:=HCU.out.1 ra hra2 0 _ rfl
  obtain ⟨c',e',fr',hb',_⟩:=Sort.cells_of_cell? this
  exact (Array.getElem?_eq_some_iff.1 hb').1)
 have HCA:=hdq ca
 have HRA:=hdq hra2
 clear hra hra2 hcd ca
 refine zbe (n:=14) 13 20 (by kernel_rfl) (fun w1 w2=>w2 = w1) (fun w1=>Stored w2 g5 w1∧Row w1 g5 (opQ o (.int .u32 (o.fr:Int)) (.int .u32 (o.too:Int)) (.slice q1 n1 k1) (.slice q2 n2 k2) o.fin) 47) (fun i w1 v=>v = (#[.pointer (some ⟨w.heap.size,0,none⟩),.slice (some ⟨bc,oc,none⟩) c.length cc,.pointer (some ⟨(w.heap.size + 1),1,none⟩),.int .u8 (x.a:Int),.int .i64 (x.a:Int),.pointer (some ⟨w.heap.size,0,none⟩),.slice (some ⟨bc,oc,none⟩) c.length cc,.int .i64 (c.length:Int),.int .i64 (ra:Int),.pointer (some ⟨bc,oc + ra * 4,none⟩),.pointer (some ⟨bc,oc + ra * 4,none⟩),.int .u32 (cd:Int),.pointer (some ⟨g5,1,none⟩)]:Array Value).getD i undef)
  (fun cz v w1=>Stored w2 g5 w1∧Row w1 g5 (opQ o (.int .u32 (cd:Int)) (.int .u32 (o.too:Int)) (.slice q1 n1 k1) (.slice q2 n2 k2) o.fin) 47) (by kernel_rfl) (by kernel_rfl) (by kernel_rfl) ⟨zbh (Stored.refl _ _),HR5.out⟩ rfl (fun w1 w2 a e=>e ▸ a) (fun i w1 w2 v e h=>h) ?_
 intro F Fz hF hFz
 simp only [fill,updV,dstAt] at hF hFz
 simp [Act.put] at hF hFz
 obtain rfl:F = fun cz=>_:=funext fun cz=>(hF cz).symm
 obtain rfl:Fz = fun cz v=>_:=funext fun cz=>funext fun v=>(hFz cz v).symm
 clear hF hFz
 refine ⟨?_,?_,?_⟩
 ·rintro i op ho nez cz wx ⟨S,RGv⟩ hG
  have RFx:=HRF1.out.stored S (by have:=HG5.out; omega)
  have RXx:=HRX1.out.stored S (by have:=HG5.out; omega)
  have f0:wx.cell? ⟨w.heap.size,0,none⟩ = some (.slice (some ⟨bc,oc,none⟩) c.length cc):=RFx.cell 0
  have x1:wx.cell? ⟨(w.heap.size + 1),1,none⟩ = some (.int .u8 (x.a:Int)):=RXx.cell 1
  have ea:wx.cell? ⟨bc,oc + ra * 4,none⟩ = some (.int .u32 (cd:Int)):=zbk HCA.out S (by have:=HBU.out; have:=HG5.out; omega)
  rcases i with _ | _ | _ | _ | _ | _ | _ | _ | _ | _ | _ | _ | _ | _ | i
  all_goals (first | (exact absurd rfl nez) | (simp at ho; done) | (obtain rfl:=Option.some.inj ho))
  ·exact zac (.pointer (some ⟨w.heap.size,0,none⟩)) rfl (by go_simp) ⟨rfl,rfl⟩
  ·have g0:cz 0 = .pointer (some ⟨w.heap.size,0,none⟩):=hG 0 rfl (by omega)
   exact zac (.slice (some ⟨bc,oc,none⟩) c.length cc) rfl (by simp only [g0]; go_simp) ⟨rfl,rfl⟩
  ·exact zac (.pointer (some ⟨(w.heap.size + 1),1,none⟩)) rfl (by go_simp) ⟨rfl,rfl⟩
  ·have g2:cz 2 = .pointer (some ⟨(w.heap.size + 1),1,none⟩):=hG 2 rfl (by omega)
   exact zac (.int .u8 (x.a:Int)) rfl (by simp only [g2]; go_simp) ⟨rfl,rfl⟩
  ·have g3:cz 3 = .int .u8 (x.a:Int):=hG 3 rfl (by omega)
   exact zac (.int .i64 (x.a:Int)) rfl (by simp only [g3]; go_simp) ⟨rfl,rfl⟩
  ·exact zac (.pointer (some ⟨w.heap.size,0,none⟩)) rfl (by go_simp) ⟨rfl,rfl⟩
  ·have g5:cz 5 = .pointer (some ⟨w.heap.size,0,none⟩):=hG 5 rfl (by omega)
   exact zac (.slice (some ⟨bc,oc,none⟩) c.length cc) rfl (by simp only [g5]; go_simp) ⟨rfl,rfl⟩
  ·have g6:cz 6 = .slice (some ⟨bc,oc,none⟩) c.length cc:=hG 6 rfl (by omega)
   exact zac (.int .i64 (c.length:Int)) rfl (by simp only [g6]; go_simp) ⟨rfl,rfl⟩
  ·have g4:cz 4 = .int .i64 (x.a:Int):=hG 4 rfl (by omega)
   have g7:cz 7 = .int .i64 (c.length:Int):=hG 7 rfl (by omega)
   exact zac (.int .i64 (ra:Int)) rfl (by simp only [g4,g7]; go_simp) ⟨rfl,rfl⟩
  ·have g1:cz 1 = .slice (some ⟨bc,oc,none⟩) c.length cc:=hG 1 rfl (by omega)
   have g8:cz 8 = .int .i64 (ra:Int):=hG 8 rfl (by omega)
   exact zac (.pointer (some ⟨bc,oc + ra * 4,none⟩)) rfl (by simp only [g1,g8]; go_simp) ⟨rfl,rfl⟩
  ·have g9:cz 9 = .pointer (some ⟨bc,oc + ra * 4,none⟩):=hG 9 rfl (by omega)
   exact zac (.pointer (some ⟨bc,oc + ra * 4,none⟩)) rfl (by simp only [g9]; go_simp) ⟨rfl,rfl⟩
  ·have g10:cz 10 = .pointer (some ⟨bc,oc + ra * 4,none⟩):=hG 10 rfl (by omega)
   exact zac (.int .u32 (cd:Int)) rfl (by simp only [g10]; go_simp) ⟨rfl,rfl⟩
  ·exact zac (.pointer (some ⟨g5,1,none⟩)) rfl (by go_simp) ⟨rfl,rfl⟩
 ·rintro op ho cz wx ⟨S,RGv⟩ hG
  obtain rfl:=Option.some.inj ho
  have g12:cz 12 = .pointer (some ⟨g5,1,none⟩):=hG 12 (by omega) (by omega)
  have g11:cz 11 = .int .u32 (cd:Int):=hG 11 (by omega) (by omega)
  have vo:wx.cell? ⟨g5,1,none⟩ = some (.int .u32 (o.fr:Int)):=RGv.cell 1
  have fz:wx.frozen? ⟨g5,1,none⟩ = false:=RGv.frozen 1
  exact zbu (wx.setCell ⟨g5,1,none⟩ (.int .u32 (cd:Int))) rfl (by simp only [g12,g11]; go_simp) ⟨S.trans (zaf _ _ _ _),RGv.set 1 (.int .u32 (cd:Int))⟩
 ·rintro cz v w3 ⟨S3,R3⟩
  have HS3:=hdq S3
  have HR3:=hdq R3
  have HRZ3:=hdq (HRZ1.out.stored S3 (by have:=HG5.out; omega))
  have HRX3:=hdq (HRX1.out.stored S3 (by have:=HG5.out; omega))
  have HRF3:=hdq (HRF1.out.stored S3 (by have:=HG5.out; omega))
  have HB3:=hdq (S3.below HB1.out (by have:=HG5.out; omega))
  clear S3 R3 qa q3 mra kra1 HCA
  have d0:w3.cell? ⟨g5,0,none⟩ = some (.int .i64 (o.kind:Int)):=HR3.out.cell 0
  have HOK2:Hid (okR w3 (⟨(o.kind:Int),cd,o.too,⟨o.name.toArray⟩,o.parts.map fun p=>(p.1,(p.2:Int)),o.starts,o.fin,(o.pos:Int)⟩:RO) (.slice q1 n1 k1) (.slice q2 n2 k2)):=hdq (zap HOK.out (fun b off e=>(HOFF.out.1 b off e).1) (fun b off e=>(HOFF.out.2 b off e).1) rfl rfl HS3.out)
  go_wp2_with (first | (refine zaq (N:=202) rfl rfl 47 _ rfl g5 rfl HR3.out _ Tryz.underlying47 rfl (by kernel_rfl) ?_) | (refine zad rfl 47 _ _ rfl (w.heap.size + 2) (opQ o (.int .u32 (cd:Int)) (.int .u32 (o.too:Int)) (.slice q1 n1 k1) (.slice q2 n2 k2) o.fin) rfl rfl HRZ3.out (by kernel_rfl) rfl (by simp [opQ,Value.oneCell']) rfl ?_; intro wz RZ SZ))
  have BZ:=SZ.below HB3.out (show w.heap.size≤(w.heap.size + 2) by omega)
  refine bodyPost_ret (v:=.agg (opQ o (.int .u32 (cd:Int)) (.int .u32 (o.too:Int)) (.slice q1 n1 k1) (.slice q2 n2 k2) o.fin)) (zau rfl _ _ RZ rfl Tryz.underlying47 rfl (by kernel_rfl)) rfl ⟨(⟨(o.kind:Int),cd,o.too,⟨o.name.toArray⟩,o.parts.map fun p=>(p.1,(p.2:Int)),o.starts,o.fin,(o.pos:Int)⟩:RO),_,_,rfl,?_,by show (0:Int)≤(o.kind:Int); omega,by show (o.kind:Int) < 8; have:=HCAN.out.kind; omega,by have:=HCAN.out.name; simpa [ByteArray.size] using Nat.le_trans this (by omega),by show (o.parts.map _).length≤1000; rw [List.length_map]; have:=HCAN.out.parts.2.1; omega,BZ⟩
  exact zap HOK2.out (fun b off e=>(HOFF.out.1 b off e).2) (fun b off e=>(HOFF.out.2 b off e).2) rfl rfl SZ
set_option maxHeartbeats 16000000 in
set_option maxRecDepth 100000 in
theorem near_2 (c:List Ac) (u kk:List Int) (cv uv kv:Value) (en:Int) (x:Sc.O) (vp vl:Value) (w:World) (hc:CsAt w cv c) (hu:NsAt .u16 w uv u) (hk:NsAt .i32 w kv kk) (hc0:0 < c.length) (hc1:c.length≤1000) (hu0:0 < u.length) (hu1:u.length≤1000) (hub:∀ z ∈ u,0≤z∧z≤65535) (hk0:0 < kk.length) (hk1:kk.length≤1000) (hx:x.ok) (hP:PosAt w vp x.parts) (hL:NsAt .u8 w vl x.long) (hxk:x.kind % 8 = 2) :
  Calls Tryz.prog 11 #[.agg #[cv,uv,kv,.int .i32 en],.agg (ov x vp vl).toArray] w (NearOk w):=by
 obtain ⟨pc,cc,rfl,hEc⟩:=hc
 obtain ⟨pu,cu,rfl,hEu⟩:=hu
 obtain ⟨pk,ck,rfl,hEk⟩:=hk
 obtain ⟨bc,oc,rfl,hcc⟩:∃ b o,pc = some ⟨b,o,none⟩∧∀ i,i < c.length→w.rangeAt b (o + i * 4) (ac (c.getD i ac0)):=by
  rcases hEc with h | h
  ·rw [h] at hc0; simp at hc0
  ·exact h
 obtain ⟨bu,ou,rfl,huu⟩:∃ b o,pu = some ⟨b,o,none⟩∧∀ i,i < u.length→w.cell? ⟨b,o + i,none⟩ = some (.int .u16 (u.getD i 0)):=by
  rcases hEu with h | h
  ·rw [h] at hu0; simp at hu0
  ·exact h
 obtain ⟨bk,ok,rfl,hkk⟩:∃ b o,pk = some ⟨b,o,none⟩∧∀ i,i < kk.length→w.cell? ⟨b,o + i,none⟩ = some (.int .i32 (kk.getD i 0)):=by
  rcases hEk with h | h
  ·rw [h] at hk0; simp at hk0
  ·exact h
 have HRAW:=hdq fun W (hb:Below w.heap.size w W)=>zdx x hx vp vl W (hP.below hb) (hL.below hb)
 obtain ⟨pp,cp,rfl,_⟩:=id hP
 obtain ⟨pl,cl,rfl,_⟩:=id hL
 obtain ⟨np,hnp⟩:∃ n,n = x.parts.length:=⟨_,rfl⟩
 have HCU:=hdq (And.intro hcc (And.intro huu hkk))
 have HLN:=hdq (And.intro hc0 (And.intro hc1 (And.intro hu0 (And.intro hu1 (And.intro hk0 hk1)))))
 have HUB:=hdq hub
 have HX:=hdq hx
 have HLL:=hdq hL
 have HCAN:=hdq (Sc.raw_can x hx)
 have hkx:(Sc.raw x).kind = x.kind % 8:=zci x
 obtain ⟨o,ho⟩:∃ o,o = Sc.raw x:=⟨_,rfl⟩
 rw [← ho] at HCAN hkx HRAW
 have HKX:=hdq hkx
 unfold ov at *
 rw [← hnp] at HRAW ⊢
 have HOO:=hdq ho
 obtain ⟨w0,hw0⟩:∃ w0,w0 = ((w.alloc (.cells #[.slice (some ⟨bc,oc,none⟩) c.length cc,.slice (some ⟨bu,ou,none⟩) u.length cu,.slice (some ⟨bk,ok,none⟩) kk.length ck,.int .i32 en] 41)).alloc (.cells #[.int .u8 (x.kind:Int),.int .u8 (x.a:Int),.int .u8 (x.b:Int),.int .u8 (x.nm:Int),.slice pp np cp,.int .i16 x.first,.slice pl x.long.length cl] 31)).alloc (.cells #[.int .i64 0,.int .u32 0,.int .u32 0,.string ⟨#[]⟩,.slice none 0 0,.slice none 0 0,.int .i32 0,.int .i64 0] 47):=⟨_,rfl⟩
 have hsz0:w0.heap.size = w.heap.size + 3:=by rw [hw0]; simp
 have B0:Below w.heap.size w w0:=by rw [hw0]; exact zaa (zaa (zaa (Below.refl _ w) _) _) _
 have RF:Row w0 w.heap.size #[.slice (some ⟨bc,oc,none⟩) c.length cc,.slice (some ⟨bu,ou,none⟩) u.length cu,.slice (some ⟨bk,ok,none⟩) kk.length ck,.int .i32 en] 41:=by rw [hw0]; exact ((Row.new w _ _).alloc _).alloc _
 have RX:Row w0 (w.heap.size + 1) #[.int .u8 (x.kind:Int),.int .u8 (x.a:Int),.int .u8 (x.b:Int),.int .u8 (x.nm:Int),.slice pp np cp,.int .i16 x.first,.slice pl x.long.length cl] 31:=by rw [hw0]; exact (Row.new' _ _ _ (by simp)).alloc _
 have RZ:Row w0 (w.heap.size + 2) #[.int .i64 0,.int .u32 0,.int .u32 0,.string ⟨#[]⟩,.slice none 0 0,.slice none 0 0,.int .i32 0,.int .i64 0] 47:=by rw [hw0]; exact Row.new' _ _ _ (by simp)
 have HB0:=hdq B0
 have HRF0:=hdq RF
 have HRX0:=hdq RX
 have HRZ0:=hdq RZ
 clear hEc hEu hEk hcc huu hkk hc0 hc1 hu0 hu1 hub hk0 hk1 hx hP hL B0 RF RX RZ ho hnp hkx
 go_enter Tryz.func11,Tryz.ntmps11
 have y0:w0.cell? ⟨(w.heap.size + 1),0,none⟩ = some (.int .u8 (x.kind:Int)):=HRX0.out.cell 0
 have y1:w0.cell? ⟨(w.heap.size + 1),1,none⟩ = some (.int .u8 (x.a:Int)):=HRX0.out.cell 1
 have y2:w0.cell? ⟨(w.heap.size + 1),2,none⟩ = some (.int .u8 (x.b:Int)):=HRX0.out.cell 2
 have y3:w0.cell? ⟨(w.heap.size + 1),3,none⟩ = some (.int .u8 (x.nm:Int)):=HRX0.out.cell 3
 have y4:w0.cell? ⟨(w.heap.size + 1),4,none⟩ = some (.slice pp np cp):=HRX0.out.cell 4
 have y5:w0.cell? ⟨(w.heap.size + 1),5,none⟩ = some (.int .i16 x.first):=HRX0.out.cell 5
 have y6:w0.cell? ⟨(w.heap.size + 1),6,none⟩ = some (.slice pl x.long.length cl):=HRX0.out.cell 6
 rw [hw0] at y0 y1 y2 y3 y4 y5 y6
 go_wp2_with fail
 rw [← hw0]
 refine (HRAW.out _ HB0.out).mono ?_
 clear y0 y1 y2 y3 y4 y5 y6
 rintro _ w1 ⟨v1,v2,rfl,hP1,hN2,hfr1,hfr2,hb⟩
 obtain ⟨q1,k1,rfl,hx1⟩:=id hP1
 obtain ⟨q2,k2,rfl,hx2⟩:=id hN2
 obtain ⟨n1,hn1⟩:∃ n,n = o.parts.length:=⟨_,rfl⟩
 obtain ⟨n2,hn2⟩:∃ n,n = o.starts.length:=⟨_,rfl⟩
 rw [← hn1] at hP1 hfr1 ⊢
 rw [← hn2] at hN2 hfr2 ⊢
 have HN12:=hdq (And.intro hn1 hn2)
 unfold opc
 clear hx1 hx2 hn1 hn2
 replace hfr1:∀ g,(Value.slice q1 n1 k1).ownBlock = some g→w.heap.size + 3≤g∧g < w1.heap.size:=fun g e=>by have:=hfr1 g e; omega
 replace hfr2:∀ g,(Value.slice q2 n2 k2).ownBlock = some g→w.heap.size + 3≤g∧g < w1.heap.size:=fun g e=>by have:=hfr2 g e; omega
 obtain ⟨g5,hg5⟩:∃ g,g = w1.heap.size:=⟨_,rfl⟩
 obtain ⟨w2,hw2⟩:∃ w2,w2 = w1.alloc (.cells #[.int .i64 (o.kind:Int),.int .u32 (o.fr:Int),.int .u32 (o.too:Int),.string ⟨o.name.toArray⟩,.slice q1 n1 k1,.slice q2 n2 k2,.int .i32 o.fin,.int .i64 (o.pos:Int)] 47):=⟨_,rfl⟩
 have R5:Row w2 g5 (opQ o (.int .u32 (o.fr:Int)) (.int .u32 (o.too:Int)) (.slice q1 n1 k1) (.slice q2 n2 k2) o.fin) 47:=by rw [hg5,hw2]; exact Row.new w1 _ _
 have HR5:=hdq R5
 have HRF1:=hdq (show Row w2 w.heap.size #[.slice (some ⟨bc,oc,none⟩) c.length cc,.slice (some ⟨bu,ou,none⟩) u.length cu,.slice (some ⟨bk,ok,none⟩) kk.length ck,.int .i32 en] 41 by rw [hw2]; exact (HRF0.out.below hb).alloc _)
 have HRX1:=hdq (show Row w2 (w.heap.size + 1) #[.int .u8 (x.kind:Int),.int .u8 (x.a:Int),.int .u8 (x.b:Int),.int .u8 (x.nm:Int),.slice pp np cp,.int .i16 x.first,.slice pl x.long.length cl] 31 by rw [hw2]; exact (HRX0.out.below hb).alloc _)
 have HRZ1:=hdq (show Row w2 (w.heap.size + 2) #[.int .i64 0,.int .u32 0,.int .u32 0,.string ⟨#[]⟩,.slice none 0 0,.slice none 0 0,.int .i32 0,.int .i64 0] 47 by rw [hw2]; exact (HRZ0.out.below hb).alloc _)
 have HB1:=hdq (show Below w.heap.size w w2 by rw [hw2]; exact zaa (zab HB0.out hb) _)
 have HG5:=hdq (show (w.heap.size + 2) < g5 by have:=(HRZ0.out.below hb).lt; omega)
 have hok1:okR w2 (⟨(o.kind:Int),o.fr,o.too,⟨o.name.toArray⟩,o.parts.map fun p=>(p.1,(p.2:Int)),o.starts,o.fin,(o.pos:Int)⟩:RO) (.slice q1 n1 k1) (.slice q2 n2 k2):=by rw [hw2]; exact ⟨(zeg hP1).below (zaa (Below.refl _ w1) _),hN2.below (zaa (Below.refl _ w1) _)⟩
 have HOK:=hdq hok1
 have hoff:(∀ b off,q1 = some ⟨b,off,none⟩→b ≠ g5∧b ≠ (w.heap.size + 2))∧∀ b off,q2 = some ⟨b,off,none⟩→b ≠ g5∧b ≠ (w.heap.size + 2):=by
  have hz:=(HRZ0.out.below (Below.refl _ _)).lt
  have hz2:w0.heap.size = (w.heap.size + 2) + 1:=by rw [hw0]; simp
  refine ⟨fun b off e=>?_,fun b off e=>?_⟩
  ·subst e
   have:=hfr1 b rfl
   omega
  ·subst e
   have:=hfr2 b rfl
   omega
 have HOFF:=hdq hoff
 have f0:w2.cell? ⟨w.heap.size,0,none⟩ = some (.slice (some ⟨bc,oc,none⟩) c.length cc):=HRF1.out.cell 0
 have f1:w2.cell? ⟨w.heap.size,1,none⟩ = some (.slice (some ⟨bu,ou,none⟩) u.length cu):=HRF1.out.cell 1
 have f2:w2.cell? ⟨w.heap.size,2,none⟩ = some (.slice (some ⟨bk,ok,none⟩) kk.length ck):=HRF1.out.cell 2
 have f3:w2.cell? ⟨w.heap.size,3,none⟩ = some (.int .i32 en):=HRF1.out.cell 3
 have x1:w2.cell? ⟨(w.heap.size + 1),1,none⟩ = some (.int .u8 (x.a:Int)):=HRX1.out.cell 1
 have x2:w2.cell? ⟨(w.heap.size + 1),2,none⟩ = some (.int .u8 (x.b:Int)):=HRX1.out.cell 2
 have x6:w2.cell? ⟨(w.heap.size + 1),6,none⟩ = some (.slice pl x.long.length cl):=HRX1.out.cell 6
 have d0:w2.cell? ⟨g5,0,none⟩ = some (.int .i64 (o.kind:Int)):=R5.cell 0
 rw [hg5] at d0
 rw [hw2] at d0 f0 f1 f2 f3 x1 x2 x6
 have l1:((c.length:Int) == 0) = false:=beq_eq_false_iff_ne.2 (by have:=HLN.out; omega)
 have l2:((u.length:Int) == 0) = false:=beq_eq_false_iff_ne.2 (by have:=HLN.out; omega)
 have e2:((o.kind:Int) == 2) = true:=by rw [HKX.out,hxk]; rfl
 have e0:((o.kind:Int) == 0) = false:=beq_eq_false_iff_ne.2 (by rw [HKX.out]; omega)
 have e1:((o.kind:Int) == 1) = false:=beq_eq_false_iff_ne.2 (by rw [HKX.out]; omega)
 have e3:((o.kind:Int) == 3) = false:=beq_eq_false_iff_ne.2 (by rw [HKX.out]; omega)
 have e4:((o.kind:Int) == 4) = false:=beq_eq_false_iff_ne.2 (by rw [HKX.out]; omega)
 have e5:((o.kind:Int) == 5) = false:=beq_eq_false_iff_ne.2 (by rw [HKX.out]; omega)
 have e6:((o.kind:Int) == 6) = false:=beq_eq_false_iff_ne.2 (by rw [HKX.out]; omega)
 have e7:((o.kind:Int) == 7) = false:=beq_eq_false_iff_ne.2 (by rw [HKX.out]; omega)
 clear R5 hb hP1 hN2 hok1 hoff hfr1 hfr2
 go_wp2_with fail
 rw [← hg5]
 rw [← hw2]
 clear hg5 f0 f1 f2 f3 x1 x2 x6 d0 hw2 hw0 HRF0 HRX0 HRZ0 HB0
 obtain ⟨ra,hra⟩:∃ r,r = x.a % c.length:=⟨_,rfl⟩
 have hra2:ra < c.length:=by rw [hra]; exact Nat.mod_lt _ (by have:=HLN.out; omega)
 have mra:((x.a:Nat):Int).tmod (c.length:Int) = (ra:Int):=by rw [Int.tmod_eq_emod_of_nonneg (by omega),hra]; rfl
 have kra1:(0:Int)≤(ra:Int):=by omega
 have kra2:(ra:Int) < (c.length:Int):=by omega
 have qa:IntKind.i64.wrap (x.a:Int) = (x.a:Int):=by have:=HX.out.a; rw [IntKind.wrap_i64]; omega
 have q3:¬ c = []:=fun e=>by have:=HLN.out; rw [e] at this; simp at this
 obtain ⟨cd,hcd⟩:∃ z,z = (c.getD ra ac0).code:=⟨_,rfl⟩
 have ca:=zae (HCU.out.1 ra hra2 0 _ rfl) HB1.out
 rw [← hcd] at ca
 have HBU:=hdq (show bc < w.heap.size from by
  have:=HCU.out.1 ra hra2 0 _ rfl
  obtain ⟨c',e',fr',hb',_⟩:=Sort.cells_of_cell? this
  exact (Array.getElem?_eq_some_iff.1 hb').1)
 have HCA:=hdq ca
 have HRA:=hdq hra2
 clear hra hra2 hcd ca
 refine zbe (n:=14) 13 20 (by kernel_rfl) (fun w1 w2=>w2 = w1) (fun w1=>Stored w2 g5 w1∧Row w1 g5 (opQ o (.int .u32 (o.fr:Int)) (.int .u32 (o.too:Int)) (.slice q1 n1 k1) (.slice q2 n2 k2) o.fin) 47) (fun i w1 v=>v = (#[.pointer (some ⟨w.heap.size,0,none⟩),.slice (some ⟨bc,oc,none⟩) c.length cc,.pointer (some ⟨(w.heap.size + 1),1,none⟩),.int .u8 (x.a:Int),.int .i64 (x.a:Int),.pointer (some ⟨w.heap.size,0,none⟩),.slice (some ⟨bc,oc,none⟩) c.length cc,.int .i64 (c.length:Int),.int .i64 (ra:Int),.pointer (some ⟨bc,oc + ra * 4,none⟩),.pointer (some ⟨bc,oc + ra * 4,none⟩),.int .u32 (cd:Int),.pointer (some ⟨g5,1,none⟩)]:Array Value).getD i undef)
  (fun cz v w1=>Stored w2 g5 w1∧Row w1 g5 (opQ o (.int .u32 (cd:Int)) (.int .u32 (o.too:Int)) (.slice q1 n1 k1) (.slice q2 n2 k2) o.fin) 47) (by kernel_rfl) (by kernel_rfl) (by kernel_rfl) ⟨zbh (Stored.refl _ _),HR5.out⟩ rfl (fun w1 w2 a e=>e ▸ a) (fun i w1 w2 v e h=>h) ?_
 intro F Fz hF hFz
 simp only [fill,updV,dstAt] at hF hFz
 simp [Act.put] at hF hFz
 obtain rfl:F = fun cz=>_:=funext fun cz=>(hF cz).symm
 obtain rfl:Fz = fun cz v=>_:=funext fun cz=>funext fun v=>(hFz cz v).symm
 clear hF hFz
 refine ⟨?_,?_,?_⟩
 ·rintro i op ho nez cz wx ⟨S,RGv⟩ hG
  have RFx:=HRF1.out.stored S (by have:=HG5.out; omega)
  have RXx:=HRX1.out.stored S (by have:=HG5.out; omega)
  have f0:wx.cell? ⟨w.heap.size,0,none⟩ = some (.slice (some ⟨bc,oc,none⟩) c.length cc):=RFx.cell 0
  have x1:wx.cell? ⟨(w.heap.size + 1),1,none⟩ = some (.int .u8 (x.a:Int)):=RXx.cell 1
  have ea:wx.cell? ⟨bc,oc + ra * 4,none⟩ = some (.int .u32 (cd:Int)):=zbk HCA.out S (by have:=HBU.out; have:=HG5.out; omega)
  rcases i with _ | _ | _ | _ | _ | _ | _ | _ | _ | _ | _ | _ | _ | _ | i
  all_goals (first | (exact absurd rfl nez) | (simp at ho; done) | (obtain rfl:=Option.some.inj ho))
  ·exact zac (.pointer (some ⟨w.heap.size,0,none⟩)) rfl (by go_simp) ⟨rfl,rfl⟩
  ·have g0:cz 0 = .pointer (some ⟨w.heap.size,0,none⟩):=hG 0 rfl (by omega)
   exact zac (.slice (some ⟨bc,oc,none⟩) c.length cc) rfl (by simp only [g0]; go_simp) ⟨rfl,rfl⟩
  ·exact zac (.pointer (some ⟨(w.heap.size + 1),1,none⟩)) rfl (by go_simp) ⟨rfl,rfl⟩
  ·have g2:cz 2 = .pointer (some ⟨(w.heap.size + 1),1,none⟩):=hG 2 rfl (by omega)
   exact zac (.int .u8 (x.a:Int)) rfl (by simp only [g2]; go_simp) ⟨rfl,rfl⟩
  ·have g3:cz 3 = .int .u8 (x.a:Int):=hG 3 rfl (by omega)
   exact zac (.int .i64 (x.a:Int)) rfl (by simp only [g3]; go_simp) ⟨rfl,rfl⟩
  ·exact zac (.pointer (some ⟨w.heap.size,0,none⟩)) rfl (by go_simp) ⟨rfl,rfl⟩
  ·have g5:cz 5 = .pointer (some ⟨w.heap.size,0,none⟩):=hG 5 rfl (by omega)
   exact zac (.slice (some ⟨bc,oc,none⟩) c.length cc) rfl (by simp only [g5]; go_simp) ⟨rfl,rfl⟩
  ·have g6:cz 6 = .slice (some ⟨bc,oc,none⟩) c.length cc:=hG 6 rfl (by omega)
   exact zac (.int .i64 (c.length:Int)) rfl (by simp only [g6]; go_simp) ⟨rfl,rfl⟩
  ·have g4:cz 4 = .int .i64 (x.a:Int):=hG 4 rfl (by omega)
   have g7:cz 7 = .int .i64 (c.length:Int):=hG 7 rfl (by omega)
   exact zac (.int .i64 (ra:Int)) rfl (by simp only [g4,g7]; go_simp) ⟨rfl,rfl⟩
  ·have g1:cz 1 = .slice (some ⟨bc,oc,none⟩) c.length cc:=hG 1 rfl (by omega)
   have g8:cz 8 = .int .i64 (ra:Int):=hG 8 rfl (by omega)
   exact zac (.pointer (some ⟨bc,oc + ra * 4,none⟩)) rfl (by simp only [g1,g8]; go_simp) ⟨rfl,rfl⟩
  ·have g9:cz 9 = .pointer (some ⟨bc,oc + ra * 4,none⟩):=hG 9 rfl (by omega)
   exact zac (.pointer (some ⟨bc,oc + ra * 4,none⟩)) rfl (by simp only [g9]; go_simp) ⟨rfl,rfl⟩
  ·have g10:cz 10 = .pointer (some ⟨bc,oc + ra * 4,none⟩):=hG 10 rfl (by omega)
   exact zac (.int .u32 (cd:Int)) rfl (by simp only [g10]; go_simp) ⟨rfl,rfl⟩
  ·exact zac (.pointer (some ⟨g5,1,none⟩)) rfl (by go_simp) ⟨rfl,rfl⟩
 ·rintro op ho cz wx ⟨S,RGv⟩ hG
  obtain rfl:=Option.some.inj ho
  have g12:cz 12 = .pointer (some ⟨g5,1,none⟩):=hG 12 (by omega) (by omega)
  have g11:cz 11 = .int .u32 (cd:Int):=hG 11 (by omega) (by omega)
  have vo:wx.cell? ⟨g5,1,none⟩ = some (.int .u32 (o.fr:Int)):=RGv.cell 1
  have fz:wx.frozen? ⟨g5,1,none⟩ = false:=RGv.frozen 1
  exact zbu (wx.setCell ⟨g5,1,none⟩ (.int .u32 (cd:Int))) rfl (by simp only [g12,g11]; go_simp) ⟨S.trans (zaf _ _ _ _),RGv.set 1 (.int .u32 (cd:Int))⟩
 ·rintro cz v w3 ⟨S3,R3⟩
  have HS3:=hdq S3
  have HR3:=hdq R3
  have HRZ3:=hdq (HRZ1.out.stored S3 (by have:=HG5.out; omega))
  have HRX3:=hdq (HRX1.out.stored S3 (by have:=HG5.out; omega))
  have HRF3:=hdq (HRF1.out.stored S3 (by have:=HG5.out; omega))
  have HB3:=hdq (S3.below HB1.out (by have:=HG5.out; omega))
  have HCY:Hid (w3.rangeAt bc (oc + ra * 4) (ac (c.getD ra ac0))):=hdq (zah (HCU.out.1 ra HRA.out) HB3.out)
  obtain ⟨y,hy⟩:∃ y,y = c.getD ra ac0:=⟨_,rfl⟩
  rw [← hy] at HCY
  clear S3 R3 HCA hy
  have d0:w3.cell? ⟨g5,0,none⟩ = some (.int .i64 (o.kind:Int)):=HR3.out.cell 0
  go_wp2_with fail
  refine zbp (n:=13) 12 20 (by kernel_rfl) (fun w'=>Below w3.heap.size w3 w') (fun i w' v=>if i = 11 then (∃ g,v = .pointer (some ⟨g,0,none⟩)∧w3.heap.size≤g∧Row w' g #[.int .u32 0,.string ⟨#[]⟩,.int .u8 0,.int .u32 0] 61) else v = (#[.pointer (some ⟨w.heap.size,0,none⟩),.slice (some ⟨bc,oc,none⟩) c.length cc,.pointer (some ⟨(w.heap.size + 1),1,none⟩),.int .u8 (x.a:Int),.int .i64 (x.a:Int),.pointer (some ⟨w.heap.size,0,none⟩),.slice (some ⟨bc,oc,none⟩) c.length cc,.int .i64 (c.length:Int),.int .i64 (ra:Int),.pointer (some ⟨bc,oc + ra * 4,none⟩),.agg #[.int .u32 (y.code:Int),.string y.name,.int .u8 (y.kind:Int),.int .u32 (y.par:Int)],undef]:Array Value).getD i undef)
   (fun c v w'=>∃ g,c 11 = .pointer (some ⟨g,0,none⟩)∧w3.heap.size≤g∧Row w' g #[.int .u32 (y.code:Int),.string y.name,.int .u8 (y.kind:Int),.int .u32 (y.par:Int)] 61∧Below w3.heap.size w3 w') (by kernel_rfl) (by kernel_rfl) (by kernel_rfl) (zat (Below.refl _ _)) rfl (fun _ _ a b=>zab a b) (fun i w1 w2 v hb h=>by
    by_cases c:i = 11
    ·rw [if_pos c] at h ⊢; obtain ⟨g,h1,h2,h3⟩:=h; exact ⟨g,h1,h2,h3.below hb⟩
    ·rw [if_neg c] at h ⊢; exact h) ?_
  intro F Fz hF hFz
  simp only [fill,updV,dstAt] at hF hFz
  simp [Act.put] at hF hFz
  obtain rfl:F = fun cz=>_:=funext fun cz=>(hF cz).symm
  obtain rfl:Fz = fun cz v=>_:=funext fun cz=>funext fun v=>(hFz cz v).symm
  clear hF hFz
  refine ⟨?_,?_,?_⟩
  ·intro i op ho nez cz wx S hG
   have RFx:=HRF3.out.below S
   have RXx:=HRX3.out.below S
   have f0:wx.cell? ⟨w.heap.size,0,none⟩ = some (.slice (some ⟨bc,oc,none⟩) c.length cc):=RFx.cell 0
   have x1:wx.cell? ⟨(w.heap.size + 1),1,none⟩ = some (.int .u8 (x.a:Int)):=RXx.cell 1
   have cy:=zah HCY.out S
   have c0:wx.cell? ⟨bc,oc + ra * 4,none⟩ = some (.int .u32 (y.code:Int)):=cy 0 _ rfl
   have c1:wx.cell? ⟨bc,oc + ra * 4 + 1,none⟩ = some (.string y.name):=cy 1 _ rfl
   have c2:wx.cell? ⟨bc,oc + ra * 4 + 2,none⟩ = some (.int .u8 (y.kind:Int)):=cy 2 _ rfl
   have c3:wx.cell? ⟨bc,oc + ra * 4 + 3,none⟩ = some (.int .u32 (y.par:Int)):=cy 3 _ rfl
   rcases i with _ | _ | _ | _ | _ | _ | _ | _ | _ | _ | _ | _ | _ | i
   all_goals (first | (exact absurd rfl nez) | (simp at ho; done) | (obtain rfl:=Option.some.inj ho))
   ·exact zac (.pointer (some ⟨w.heap.size,0,none⟩)) rfl (by go_simp) ⟨Below.refl _ _,rfl⟩
   ·have g0:cz 0 = .pointer (some ⟨w.heap.size,0,none⟩):=hG 0 rfl (by omega)
    exact zac (.slice (some ⟨bc,oc,none⟩) c.length cc) rfl (by simp only [g0]; go_simp) ⟨Below.refl _ _,rfl⟩
   ·exact zac (.pointer (some ⟨(w.heap.size + 1),1,none⟩)) rfl (by go_simp) ⟨Below.refl _ _,rfl⟩
   ·have g2:cz 2 = .pointer (some ⟨(w.heap.size + 1),1,none⟩):=hG 2 rfl (by omega)
    exact zac (.int .u8 (x.a:Int)) rfl (by simp only [g2]; go_simp) ⟨Below.refl _ _,rfl⟩
   ·have g3:cz 3 = .int .u8 (x.a:Int):=hG 3 rfl (by omega)
    exact zac (.int .i64 (x.a:Int)) rfl (by simp only [g3]; go_simp) ⟨Below.refl _ _,rfl⟩
   ·exact zac (.pointer (some ⟨w.heap.size,0,none⟩)) rfl (by go_simp) ⟨Below.refl _ _,rfl⟩
   ·have g5:cz 5 = .pointer (some ⟨w.heap.size,0,none⟩):=hG 5 rfl (by omega)
    exact zac (.slice (some ⟨bc,oc,none⟩) c.length cc) rfl (by simp only [g5]; go_simp) ⟨Below.refl _ _,rfl⟩
   ·have g6:cz 6 = .slice (some ⟨bc,oc,none⟩) c.length cc:=hG 6 rfl (by omega)
    exact zac (.int .i64 (c.length:Int)) rfl (by simp only [g6]; go_simp) ⟨Below.refl _ _,rfl⟩
   ·have g4:cz 4 = .int .i64 (x.a:Int):=hG 4 rfl (by omega)
    have g7:cz 7 = .int .i64 (c.length:Int):=hG 7 rfl (by omega)
    exact zac (.int .i64 (ra:Int)) rfl (by simp only [g4,g7]; go_simp) ⟨Below.refl _ _,rfl⟩
   ·have g1:cz 1 = .slice (some ⟨bc,oc,none⟩) c.length cc:=hG 1 rfl (by omega)
    have g8:cz 8 = .int .i64 (ra:Int):=hG 8 rfl (by omega)
    exact zac (.pointer (some ⟨bc,oc + ra * 4,none⟩)) rfl (by simp only [g1,g8]; go_simp) ⟨Below.refl _ _,rfl⟩
   ·have g9:cz 9 = .pointer (some ⟨bc,oc + ra * 4,none⟩):=hG 9 rfl (by omega)
    exact zac (.agg #[.int .u32 (y.code:Int),.string y.name,.int .u8 (y.kind:Int),.int .u32 (y.par:Int)]) rfl (by simp only [g9]; go_simp) ⟨Below.refl _ _,rfl⟩
   ·exact zer _ (wx.alloc (.cells #[.int .u32 0,.string ⟨#[]⟩,.int .u8 0,.int .u32 0] 61)) rfl (by go_simp) ⟨zaa (Below.refl _ wx) _,wx.heap.size,rfl,S.size,Row.new wx _ _⟩
  ·intro op ho cz wx S hG
   obtain rfl:=Option.some.inj ho
   obtain ⟨g,g11,hg,RG⟩:=hG 11 (by omega) (by omega)
   have g10:cz 10 = .agg #[.int .u32 (y.code:Int),.string y.name,.int .u8 (y.kind:Int),.int .u32 (y.par:Int)]:=hG 10 (by omega) (by omega)
   exact zjz (S:=fun w'=>Row w' g #[.int .u32 (y.code:Int),.string y.name,.int .u8 (y.kind:Int),.int .u32 (y.par:Int)] 61∧Stored wx g w') (zdl rfl 61 _ _ rfl g _ g11 g10 RG (by kernel_rfl) rfl (by simp [opQ,Value.oneCell']) (fun w1 R1 S1=>⟨R1,S1⟩)) (fun w' ⟨R1,S1⟩=>⟨g,g11,hg,R1,S1.below S hg⟩)
  ·rintro c9 v9 w4 ⟨g6,g11,hg,R6,SX⟩
   simp only [g11]
   have HY:=hdq R6
   have HR4:=hdq (HR3.out.below SX)
   have HRZ4:=hdq (HRZ3.out.below SX)
   have HRX4:=hdq (HRX3.out.below SX)
   have HRF4:=hdq (HRF3.out.below SX)
   have HB4:=hdq (HB3.out.trans (SX.mono HB3.out.size))
   have HG6:=hdq (show g5 < g6 by have:=HR3.out.lt; omega)
   have HOK4:Hid (okR w4 (⟨(o.kind:Int),cd,o.too,⟨o.name.toArray⟩,o.parts.map fun p=>(p.1,(p.2:Int)),o.starts,o.fin,(o.pos:Int)⟩:RO) (.slice q1 n1 k1) (.slice q2 n2 k2)):=hdq ((zap (r':=(⟨(o.kind:Int),cd,o.too,⟨o.name.toArray⟩,o.parts.map fun p=>(p.1,(p.2:Int)),o.starts,o.fin,(o.pos:Int)⟩:RO)) HOK.out (fun b off e=>(HOFF.out.1 b off e).1) (fun b off e=>(HOFF.out.2 b off e).1) rfl rfl HS3.out).below SX)
   clear g11 hg R6 SX qa mra kra1 kra2 d0 HCY
   have f0:w4.cell? ⟨w.heap.size,0,none⟩ = some (.slice (some ⟨bc,oc,none⟩) c.length cc):=HRF4.out.cell 0
   go_wp2_with fail
   clear f0
   go_loopw [138] (fun iv wr=>∃ (k b:Nat),k≤c.length∧iv = .int .i64 (k:Int)∧Row wr g5 (opQ o (.int .u32 (cd:Int)) (.int .u32 (b:Int)) (.slice q1 n1 k1) (.slice q2 n2 k2) o.fin) 47∧Row wr g6 #[.int .u32 (y.code:Int),.string y.name,.int .u8 (y.kind:Int),.int .u32 (y.par:Int)] 61∧Row wr w.heap.size #[.slice (some ⟨bc,oc,none⟩) c.length cc,.slice (some ⟨bu,ou,none⟩) u.length cu,.slice (some ⟨bk,ok,none⟩) kk.length ck,.int .i32 en] 41∧Row wr (w.heap.size + 1) #[.int .u8 (x.kind:Int),.int .u8 (x.a:Int),.int .u8 (x.b:Int),.int .u8 (x.nm:Int),.slice pp np cp,.int .i16 x.first,.slice pl x.long.length cl] 31∧Row wr (w.heap.size + 2) #[.int .i64 0,.int .u32 0,.int .u32 0,.string ⟨#[]⟩,.slice none 0 0,.slice none 0 0,.int .i32 0,.int .i64 0] 47∧okR wr (⟨(o.kind:Int),cd,b,⟨o.name.toArray⟩,o.parts.map fun p=>(p.1,(p.2:Int)),o.starts,o.fin,(o.pos:Int)⟩:RO) (.slice q1 n1 k1) (.slice q2 n2 k2)∧Below w.heap.size w wr) (fun iv _=>c.length - (intOf iv).toNat)
   case atStart=>exact ⟨0,o.too,by omega,rfl,HR4.out,HY.out,HRF4.out,HRX4.out,HRZ4.out,HOK4.out,HB4.out⟩
   case round =>
    clear HS3 HR3 HRZ3 HRX3 HRF3 HB3 HR4 HRZ4 HRX4 HRF4 HB4 HY HOK4
    obtain ⟨k,b,hk,rfl,hr5,hr6,hrf,hrx,hrz,hokr,BB⟩:=hrel
    have HRr:=hdq hr5
    have HYr:=hdq hr6
    have HRFr:=hdq hrf
    have HRXr:=hdq hrx
    have HRZr:=hdq hrz
    have HOKr:=hdq hokr
    have HBr:=hdq BB
    obtain ⟨r4,hr4⟩:∃ z,z = x.b % 4:=⟨_,rfl⟩
    have hr42:r4 < 4:=by omega
    have mr4:((x.b:Nat):Int).tmod 4 = (r4:Int):=by rw [Int.tmod_eq_emod_of_nonneg (by omega),hr4]; rfl
    have wr3:IntKind.u8.wrap (r4:Int) = (r4:Int):=by rw [IntKind.wrap_u8]; omega
    clear hr5 hr6 hrf hrx hrz hokr BB hr4 hr42
    by_cases hlt:k < c.length
    ·have i1:(k:Int) < (c.length:Int):=by omega
     have HLT:=hdq hlt
     have e5':IntKind.i64.wrap ((k:Int) + 1) = (k:Int) + 1:=by rw [IntKind.wrap_i64]; have:=HLN.out; omega
     obtain ⟨n9,hn9⟩:∃ n,n = x.b + k:=⟨_,rfl⟩
     have wn9:IntKind.i64.wrap ((x.b:Int) + (k:Int)) = (n9:Int):=by rw [IntKind.wrap_i64]; have:=HLN.out; have:=HX.out.b; omega
     obtain ⟨rb,hrb⟩:∃ r,r = n9 % c.length:=⟨_,rfl⟩
     have hrb2:rb < c.length:=by rw [hrb]; exact Nat.mod_lt _ (by have:=HLN.out; omega)
     have mrb:((n9:Nat):Int).tmod (c.length:Int) = (rb:Int):=by rw [Int.tmod_eq_emod_of_nonneg (by omega),hrb]; rfl
     have krb1:(0:Int)≤(rb:Int):=by omega
     have krb2:(rb:Int) < (c.length:Int):=by omega
     have qb:IntKind.i64.wrap (x.b:Int) = (x.b:Int):=by have:=HX.out.b; rw [IntKind.wrap_i64]; omega
     have HCZ:Hid (wr.rangeAt bc (oc + rb * 4) (ac (c.getD rb ac0))):=hdq (zah (HCU.out.1 rb hrb2) HBr.out)
     obtain ⟨z,hz⟩:∃ z,z = c.getD rb ac0:=⟨_,rfl⟩
     rw [← hz] at HCZ
     clear hn9 hrb hrb2 hz hlt hk mr4 wr3
     go_wp2_with fail
     refine zbp (n:=15) 14 20 (by kernel_rfl) (fun w'=>Below wr.heap.size wr w') (fun i w' v=>if i = 13 then (∃ g,v = .pointer (some ⟨g,0,none⟩)∧wr.heap.size≤g∧Row w' g #[.int .u32 0,.string ⟨#[]⟩,.int .u8 0,.int .u32 0] 61) else v = (#[.pointer (some ⟨w.heap.size,0,none⟩),.slice (some ⟨bc,oc,none⟩) c.length cc,.pointer (some ⟨(w.heap.size + 1),2,none⟩),.int .u8 (x.b:Int),.int .i64 (x.b:Int),.int .i64 (k:Int),.int .i64 (n9:Int),.pointer (some ⟨w.heap.size,0,none⟩),.slice (some ⟨bc,oc,none⟩) c.length cc,.int .i64 (c.length:Int),.int .i64 (rb:Int),.pointer (some ⟨bc,oc + rb * 4,none⟩),.agg #[.int .u32 (z.code:Int),.string z.name,.int .u8 (z.kind:Int),.int .u32 (z.par:Int)],undef]:Array Value).getD i undef)
      (fun c v w'=>∃ g,c 13 = .pointer (some ⟨g,0,none⟩)∧wr.heap.size≤g∧Row w' g #[.int .u32 (z.code:Int),.string z.name,.int .u8 (z.kind:Int),.int .u32 (z.par:Int)] 61∧Below wr.heap.size wr w') (by kernel_rfl) (by kernel_rfl) (by kernel_rfl) (zat (Below.refl _ _)) rfl (fun _ _ a b=>zab a b) (fun i w1 w2 v hb h=>by
       by_cases c:i = 13
       ·rw [if_pos c] at h ⊢; obtain ⟨g,h1,h2,h3⟩:=h; exact ⟨g,h1,h2,h3.below hb⟩
       ·rw [if_neg c] at h ⊢; exact h) ?_
     intro F Fz hF hFz
     simp only [fill,updV,dstAt] at hF hFz
     simp [Act.put] at hF hFz
     obtain rfl:F = fun cz=>_:=funext fun cz=>(hF cz).symm
     obtain rfl:Fz = fun cz v=>_:=funext fun cz=>funext fun v=>(hFz cz v).symm
     clear hF hFz
     refine ⟨?_,?_,?_⟩
     ·intro i op ho nez cz wx S hG
      have RFx:=HRFr.out.below S
      have RXx:=HRXr.out.below S
      have f0:wx.cell? ⟨w.heap.size,0,none⟩ = some (.slice (some ⟨bc,oc,none⟩) c.length cc):=RFx.cell 0
      have x2:wx.cell? ⟨(w.heap.size + 1),2,none⟩ = some (.int .u8 (x.b:Int)):=RXx.cell 2
      have cz9:=zah HCZ.out S
      have c0:wx.cell? ⟨bc,oc + rb * 4,none⟩ = some (.int .u32 (z.code:Int)):=cz9 0 _ rfl
      have c1:wx.cell? ⟨bc,oc + rb * 4 + 1,none⟩ = some (.string z.name):=cz9 1 _ rfl
      have c2:wx.cell? ⟨bc,oc + rb * 4 + 2,none⟩ = some (.int .u8 (z.kind:Int)):=cz9 2 _ rfl
      have c3:wx.cell? ⟨bc,oc + rb * 4 + 3,none⟩ = some (.int .u32 (z.par:Int)):=cz9 3 _ rfl
      rcases i with _ | _ | _ | _ | _ | _ | _ | _ | _ | _ | _ | _ | _ | _ | _ | i
      all_goals (first | (exact absurd rfl nez) | (simp at ho; done) | (obtain rfl:=Option.some.inj ho))
      ·exact zac (.pointer (some ⟨w.heap.size,0,none⟩)) rfl (by go_simp) ⟨Below.refl _ _,rfl⟩
      ·have g0:cz 0 = .pointer (some ⟨w.heap.size,0,none⟩):=hG 0 rfl (by omega)
       exact zac (.slice (some ⟨bc,oc,none⟩) c.length cc) rfl (by simp only [g0]; go_simp) ⟨Below.refl _ _,rfl⟩
      ·exact zac (.pointer (some ⟨(w.heap.size + 1),2,none⟩)) rfl (by go_simp) ⟨Below.refl _ _,rfl⟩
      ·have g2:cz 2 = .pointer (some ⟨(w.heap.size + 1),2,none⟩):=hG 2 rfl (by omega)
       exact zac (.int .u8 (x.b:Int)) rfl (by simp only [g2]; go_simp) ⟨Below.refl _ _,rfl⟩
      ·have g3:cz 3 = .int .u8 (x.b:Int):=hG 3 rfl (by omega)
       exact zac (.int .i64 (x.b:Int)) rfl (by simp only [g3]; go_simp) ⟨Below.refl _ _,rfl⟩
      ·exact zac (.int .i64 (k:Int)) rfl (by go_simp) ⟨Below.refl _ _,rfl⟩
      ·have g4:cz 4 = .int .i64 (x.b:Int):=hG 4 rfl (by omega)
       have g5:cz 5 = .int .i64 (k:Int):=hG 5 rfl (by omega)
       exact zac (.int .i64 (n9:Int)) rfl (by simp only [g4,g5]; go_simp) ⟨Below.refl _ _,rfl⟩
      ·exact zac (.pointer (some ⟨w.heap.size,0,none⟩)) rfl (by go_simp) ⟨Below.refl _ _,rfl⟩
      ·have g7:cz 7 = .pointer (some ⟨w.heap.size,0,none⟩):=hG 7 rfl (by omega)
       exact zac (.slice (some ⟨bc,oc,none⟩) c.length cc) rfl (by simp only [g7]; go_simp) ⟨Below.refl _ _,rfl⟩
      ·have g8:cz 8 = .slice (some ⟨bc,oc,none⟩) c.length cc:=hG 8 rfl (by omega)
       exact zac (.int .i64 (c.length:Int)) rfl (by simp only [g8]; go_simp) ⟨Below.refl _ _,rfl⟩
      ·have g6:cz 6 = .int .i64 (n9:Int):=hG 6 rfl (by omega)
       have g9:cz 9 = .int .i64 (c.length:Int):=hG 9 rfl (by omega)
       exact zac (.int .i64 (rb:Int)) rfl (by simp only [g6,g9]; go_simp) ⟨Below.refl _ _,rfl⟩
      ·have g1:cz 1 = .slice (some ⟨bc,oc,none⟩) c.length cc:=hG 1 rfl (by omega)
       have g10:cz 10 = .int .i64 (rb:Int):=hG 10 rfl (by omega)
       exact zac (.pointer (some ⟨bc,oc + rb * 4,none⟩)) rfl (by simp only [g1,g10]; go_simp) ⟨Below.refl _ _,rfl⟩
      ·have g11:cz 11 = .pointer (some ⟨bc,oc + rb * 4,none⟩):=hG 11 rfl (by omega)
       exact zac (.agg #[.int .u32 (z.code:Int),.string z.name,.int .u8 (z.kind:Int),.int .u32 (z.par:Int)]) rfl (by simp only [g11]; go_simp) ⟨Below.refl _ _,rfl⟩
      ·exact zer _ (wx.alloc (.cells #[.int .u32 0,.string ⟨#[]⟩,.int .u8 0,.int .u32 0] 61)) rfl (by go_simp) ⟨zaa (Below.refl _ wx) _,wx.heap.size,rfl,S.size,Row.new wx _ _⟩
     ·intro op ho cz wx S hG
      obtain rfl:=Option.some.inj ho
      obtain ⟨g,g13,hg,RG⟩:=hG 13 (by omega) (by omega)
      have g12:cz 12 = .agg #[.int .u32 (z.code:Int),.string z.name,.int .u8 (z.kind:Int),.int .u32 (z.par:Int)]:=hG 12 (by omega) (by omega)
      exact zjz (S:=fun w'=>Row w' g #[.int .u32 (z.code:Int),.string z.name,.int .u8 (z.kind:Int),.int .u32 (z.par:Int)] 61∧Stored wx g w') (zdl rfl 61 _ _ rfl g _ g13 g12 RG (by kernel_rfl) rfl (by simp [opQ,Value.oneCell']) (fun w1 R1 S1=>⟨R1,S1⟩)) (fun w' ⟨R1,S1⟩=>⟨g,g13,hg,R1,S1.below S hg⟩)
     ·rintro c9 v9 w6 ⟨g8,g13,hg,R8,SX⟩
      simp only [g13]
      have HR6:=hdq (HRr.out.below SX)
      have hg8:g5 < g8:=by have:=HRr.out.lt; omega
      have S7:=zag g5 [.int .u32 (z.code:Int)] 2 w6
      have HR7:Hid (Row (w6.setCells g5 2 [.int .u32 (z.code:Int)]) g5 (opQ o (.int .u32 (cd:Int)) (.int .u32 (z.code:Int)) (.slice q1 n1 k1) (.slice q2 n2 k2) o.fin) 47):=hdq (Row.setCells [.int .u32 (z.code:Int)] 2 HR6.out)
      have HY7:Hid (Row (w6.setCells g5 2 [.int .u32 (z.code:Int)]) g6 #[.int .u32 (y.code:Int),.string y.name,.int .u8 (y.kind:Int),.int .u32 (y.par:Int)] 61):=hdq ((HYr.out.below SX).stored S7 (by have:=HG6.out; omega))
      have HZ7:Hid (Row (w6.setCells g5 2 [.int .u32 (z.code:Int)]) g8 #[.int .u32 (z.code:Int),.string z.name,.int .u8 (z.kind:Int),.int .u32 (z.par:Int)] 61):=hdq (R8.stored S7 (by omega))
      have HRF7:=hdq ((HRFr.out.below SX).stored S7 (by have:=HG5.out; omega))
      have HRX7:=hdq ((HRXr.out.below SX).stored S7 (by have:=HG5.out; omega))
      have HRZ7:=hdq ((HRZr.out.below SX).stored S7 (by have:=HG5.out; omega))
      have HB7:=hdq (S7.below (HBr.out.trans (SX.mono HBr.out.size)) (by have:=HG5.out; omega))
      have HOK7:Hid (okR (w6.setCells g5 2 [.int .u32 (z.code:Int)]) (⟨(o.kind:Int),cd,z.code,⟨o.name.toArray⟩,o.parts.map fun p=>(p.1,(p.2:Int)),o.starts,o.fin,(o.pos:Int)⟩:RO) (.slice q1 n1 k1) (.slice q2 n2 k2)):=hdq (zap (HOKr.out.below SX) (fun b off e=>(HOFF.out.1 b off e).1) (fun b off e=>(HOFF.out.2 b off e).1) rfl rfl S7)
      have z0:w6.cell? ⟨g8,0,none⟩ = some (.int .u32 (z.code:Int)):=R8.cell 0
      have t0:(w6.setCells g5 2 [.int .u32 (z.code:Int)]).cell? ⟨g8,0,none⟩ = some (.int .u32 (z.code:Int)):=HZ7.out.cell 0
      have t2:(w6.setCells g5 2 [.int .u32 (z.code:Int)]).cell? ⟨g8,2,none⟩ = some (.int .u8 (z.kind:Int)):=HZ7.out.cell 2
      have u0:(w6.setCells g5 2 [.int .u32 (z.code:Int)]).cell? ⟨g6,0,none⟩ = some (.int .u32 (y.code:Int)):=HY7.out.cell 0
      have u2:(w6.setCells g5 2 [.int .u32 (z.code:Int)]).cell? ⟨g6,2,none⟩ = some (.int .u8 (y.kind:Int)):=HY7.out.cell 2
      have d0:(w6.setCells g5 2 [.int .u32 (z.code:Int)]).cell? ⟨g5,0,none⟩ = some (.int .i64 (o.kind:Int)):=HR7.out.cell 0
      have x2:(w6.setCells g5 2 [.int .u32 (z.code:Int)]).cell? ⟨(w.heap.size + 1),2,none⟩ = some (.int .u8 (x.b:Int)):=HRX7.out.cell 2
      clear g13 hg R8 SX S7 hg8 wn9 mrb krb1 krb2 qb i1 q3 HCZ HRr HYr HRFr HRXr HRZr HOKr HBr
      by_cases kq:z.kind = y.kind
      ·have kz:((z.kind:Int) == (y.kind:Int)) = true:=by simp [kq]
       by_cases cq:z.code = y.code
       ·have cz1:((z.code:Int) == (y.code:Int)) = true:=by simp [cq]
        have cz2:((z.code:Int) != (y.code:Int)) = false:=by rw [bne,cz1]; rfl
        have HCQ:=hdq cq
        clear kq cq
        go_wp2_with (first | (refine zam rfl 44 _ _ rfl g5 2 (.int .u32 (z.code:Int)) rfl rfl rfl HR6.out (by kernel_rfl) (by show 2 < 8; omega) rfl rfl ?_) | fail)
        refine ⟨⟨k + 1,z.code,by have:=HLT.out; omega,by simp,HR7.out,HY7.out,HRF7.out,HRX7.out,HRZ7.out,HOK7.out,HB7.out⟩,by have:=HLT.out; simp [intOf]; omega⟩
       ·have cz1:((z.code:Int) == (y.code:Int)) = false:=beq_eq_false_iff_ne.2 (by omega)
        have cz2:((z.code:Int) != (y.code:Int)) = true:=by rw [bne,cz1]; rfl
        have mr4:((x.b:Nat):Int).tmod 4 = (((x.b % 4:Nat)):Int):=by rw [Int.tmod_eq_emod_of_nonneg (by omega)]; rfl
        have hr42:x.b % 4 < 4:=by omega
        obtain ⟨r4,hr4⟩:∃ z,z = x.b % 4:=⟨_,rfl⟩
        rw [← hr4] at mr4 hr42
        have wr3:IntKind.u8.wrap (r4:Int) = (r4:Int):=by rw [IntKind.wrap_u8]; omega
        clear kq cq hr4 hr42
        by_cases r0:r4 = 0
        ·subst r0
         have z4:((0:Int) == 0) = true:=rfl
         have S8:=zag g5 [.int .u32 0] 2 (w6.setCells g5 2 [.int .u32 (z.code:Int)])
         have HR8:Hid (Row ((w6.setCells g5 2 [.int .u32 (z.code:Int)]).setCells g5 2 [.int .u32 0]) g5 (opQ o (.int .u32 (cd:Int)) (.int .u32 0) (.slice q1 n1 k1) (.slice q2 n2 k2) o.fin) 47):=hdq (Row.setCells [.int .u32 0] 2 HR7.out)
         have HRZ8:=hdq (HRZ7.out.stored S8 (by have:=HG5.out; omega))
         have HB8:=hdq (S8.below HB7.out (by have:=HG5.out; omega))
         have HOK8:Hid (okR ((w6.setCells g5 2 [.int .u32 (z.code:Int)]).setCells g5 2 [.int .u32 0]) (⟨(o.kind:Int),cd,0,⟨o.name.toArray⟩,o.parts.map fun p=>(p.1,(p.2:Int)),o.starts,o.fin,(o.pos:Int)⟩:RO) (.slice q1 n1 k1) (.slice q2 n2 k2)):=hdq (zap HOK7.out (fun b off e=>(HOFF.out.1 b off e).1) (fun b off e=>(HOFF.out.2 b off e).1) rfl rfl S8)
         clear S8
         go_wp2_with (first | (refine zam rfl 44 _ _ rfl g5 2 (.int .u32 (z.code:Int)) rfl rfl rfl HR6.out (by kernel_rfl) (by show 2 < 8; omega) rfl rfl ?_) | (refine zam rfl 44 _ _ rfl g5 2 (.int .u32 0) rfl rfl rfl HR7.out (by kernel_rfl) (by show 2 < 8; omega) rfl rfl ?_) | (refine zaq (N:=202) rfl rfl 47 _ rfl g5 rfl HR8.out _ Tryz.underlying47 rfl (by kernel_rfl) ?_) | (refine zad rfl 47 _ _ rfl (w.heap.size + 2) (opQ o (.int .u32 (cd:Int)) (.int .u32 0) (.slice q1 n1 k1) (.slice q2 n2 k2) o.fin) rfl rfl HRZ8.out (by kernel_rfl) rfl (by simp [opQ,Value.oneCell']) rfl ?_; intro wz RZ SZ))
         have BZ:=SZ.below HB8.out (show w.heap.size≤(w.heap.size + 2) by omega)
         refine bodyPost_ret (v:=.agg (opQ o (.int .u32 (cd:Int)) (.int .u32 0) (.slice q1 n1 k1) (.slice q2 n2 k2) o.fin)) (zau rfl _ _ RZ rfl Tryz.underlying47 rfl (by kernel_rfl)) rfl ⟨(⟨(o.kind:Int),cd,0,⟨o.name.toArray⟩,o.parts.map fun p=>(p.1,(p.2:Int)),o.starts,o.fin,(o.pos:Int)⟩:RO),_,_,rfl,?_,by show (0:Int)≤(o.kind:Int); omega,by show (o.kind:Int) < 8; have:=HCAN.out.kind; omega,by have:=HCAN.out.name; simpa [ByteArray.size] using Nat.le_trans this (by omega),by show (o.parts.map _).length≤1000; rw [List.length_map]; have:=HCAN.out.parts.2.1; omega,BZ⟩
         exact zap HOK8.out (fun b off e=>(HOFF.out.1 b off e).2) (fun b off e=>(HOFF.out.2 b off e).2) rfl rfl SZ
        ·have z4:((r4:Int) == 0) = false:=beq_eq_false_iff_ne.2 (by omega)
         go_wp2_with (first | (refine zam rfl 44 _ _ rfl g5 2 (.int .u32 (z.code:Int)) rfl rfl rfl HR6.out (by kernel_rfl) (by show 2 < 8; omega) rfl rfl ?_) | (refine zaq (N:=202) rfl rfl 47 _ rfl g5 rfl HR7.out _ Tryz.underlying47 rfl (by kernel_rfl) ?_) | (refine zad rfl 47 _ _ rfl (w.heap.size + 2) (opQ o (.int .u32 (cd:Int)) (.int .u32 (z.code:Int)) (.slice q1 n1 k1) (.slice q2 n2 k2) o.fin) rfl rfl HRZ7.out (by kernel_rfl) rfl (by simp [opQ,Value.oneCell']) rfl ?_; intro wz RZ SZ))
         have BZ:=SZ.below HB7.out (show w.heap.size≤(w.heap.size + 2) by omega)
         refine bodyPost_ret (v:=.agg (opQ o (.int .u32 (cd:Int)) (.int .u32 (z.code:Int)) (.slice q1 n1 k1) (.slice q2 n2 k2) o.fin)) (zau rfl _ _ RZ rfl Tryz.underlying47 rfl (by kernel_rfl)) rfl ⟨(⟨(o.kind:Int),cd,z.code,⟨o.name.toArray⟩,o.parts.map fun p=>(p.1,(p.2:Int)),o.starts,o.fin,(o.pos:Int)⟩:RO),_,_,rfl,?_,by show (0:Int)≤(o.kind:Int); omega,by show (o.kind:Int) < 8; have:=HCAN.out.kind; omega,by have:=HCAN.out.name; simpa [ByteArray.size] using Nat.le_trans this (by omega),by show (o.parts.map _).length≤1000; rw [List.length_map]; have:=HCAN.out.parts.2.1; omega,BZ⟩
         exact zap HOK7.out (fun b off e=>(HOFF.out.1 b off e).2) (fun b off e=>(HOFF.out.2 b off e).2) rfl rfl SZ
      ·have kz:((z.kind:Int) == (y.kind:Int)) = false:=beq_eq_false_iff_ne.2 (by omega)
       clear kq
       go_wp2_with (first | (refine zam rfl 44 _ _ rfl g5 2 (.int .u32 (z.code:Int)) rfl rfl rfl HR6.out (by kernel_rfl) (by show 2 < 8; omega) rfl rfl ?_) | fail)
       refine ⟨⟨k + 1,z.code,by have:=HLT.out; omega,by simp,HR7.out,HY7.out,HRF7.out,HRX7.out,HRZ7.out,HOK7.out,HB7.out⟩,by have:=HLT.out; simp [intOf]; omega⟩
    ·have i1:¬ (k:Int) < (c.length:Int):=by omega
     have d0:wr.cell? ⟨g5,0,none⟩ = some (.int .i64 (o.kind:Int)):=HRr.out.cell 0
     have x2:wr.cell? ⟨(w.heap.size + 1),2,none⟩ = some (.int .u8 (x.b:Int)):=HRXr.out.cell 2
     clear hlt hk q3
     by_cases r0:r4 = 0
     ·subst r0
      have z4:((0:Int) == 0) = true:=rfl
      have S8:=zag g5 [.int .u32 0] 2 wr
      have HR8:Hid (Row (wr.setCells g5 2 [.int .u32 0]) g5 (opQ o (.int .u32 (cd:Int)) (.int .u32 0) (.slice q1 n1 k1) (.slice q2 n2 k2) o.fin) 47):=hdq (Row.setCells [.int .u32 0] 2 HRr.out)
      have HRZ8:=hdq (HRZr.out.stored S8 (by have:=HG5.out; omega))
      have HB8:=hdq (S8.below HBr.out (by have:=HG5.out; omega))
      have HOK8:Hid (okR (wr.setCells g5 2 [.int .u32 0]) (⟨(o.kind:Int),cd,0,⟨o.name.toArray⟩,o.parts.map fun p=>(p.1,(p.2:Int)),o.starts,o.fin,(o.pos:Int)⟩:RO) (.slice q1 n1 k1) (.slice q2 n2 k2)):=hdq (zap HOKr.out (fun b off e=>(HOFF.out.1 b off e).1) (fun b off e=>(HOFF.out.2 b off e).1) rfl rfl S8)
      clear S8
      go_wp2_with (first | (refine zam rfl 44 _ _ rfl g5 2 (.int .u32 0) rfl rfl rfl HRr.out (by kernel_rfl) (by show 2 < 8; omega) rfl rfl ?_) | (refine zaq (N:=202) rfl rfl 47 _ rfl g5 rfl HR8.out _ Tryz.underlying47 rfl (by kernel_rfl) ?_) | (refine zad rfl 47 _ _ rfl (w.heap.size + 2) (opQ o (.int .u32 (cd:Int)) (.int .u32 0) (.slice q1 n1 k1) (.slice q2 n2 k2) o.fin) rfl rfl HRZ8.out (by kernel_rfl) rfl (by simp [opQ,Value.oneCell']) rfl ?_; intro wz RZ SZ))
      have BZ:=SZ.below HB8.out (show w.heap.size≤(w.heap.size + 2) by omega)
      refine bodyPost_ret (v:=.agg (opQ o (.int .u32 (cd:Int)) (.int .u32 0) (.slice q1 n1 k1) (.slice q2 n2 k2) o.fin)) (zau rfl _ _ RZ rfl Tryz.underlying47 rfl (by kernel_rfl)) rfl ⟨(⟨(o.kind:Int),cd,0,⟨o.name.toArray⟩,o.parts.map fun p=>(p.1,(p.2:Int)),o.starts,o.fin,(o.pos:Int)⟩:RO),_,_,rfl,?_,by show (0:Int)≤(o.kind:Int); omega,by show (o.kind:Int) < 8; have:=HCAN.out.kind; omega,by have:=HCAN.out.name; simpa [ByteArray.size] using Nat.le_trans this (by omega),by show (o.parts.map _).length≤1000; rw [List.length_map]; have:=HCAN.out.parts.2.1; omega,BZ⟩
      exact zap HOK8.out (fun b off e=>(HOFF.out.1 b off e).2) (fun b off e=>(HOFF.out.2 b off e).2) rfl rfl SZ
     ·have z4:((r4:Int) == 0) = false:=beq_eq_false_iff_ne.2 (by omega)
      go_wp2_with (first | (refine zaq (N:=202) rfl rfl 47 _ rfl g5 rfl HRr.out _ Tryz.underlying47 rfl (by kernel_rfl) ?_) | (refine zad rfl 47 _ _ rfl (w.heap.size + 2) (opQ o (.int .u32 (cd:Int)) (.int .u32 (b:Int)) (.slice q1 n1 k1) (.slice q2 n2 k2) o.fin) rfl rfl HRZr.out (by kernel_rfl) rfl (by simp [opQ,Value.oneCell']) rfl ?_; intro wz RZ SZ))
      have BZ:=SZ.below HBr.out (show w.heap.size≤(w.heap.size + 2) by omega)
      refine bodyPost_ret (v:=.agg (opQ o (.int .u32 (cd:Int)) (.int .u32 (b:Int)) (.slice q1 n1 k1) (.slice q2 n2 k2) o.fin)) (zau rfl _ _ RZ rfl Tryz.underlying47 rfl (by kernel_rfl)) rfl ⟨(⟨(o.kind:Int),cd,b,⟨o.name.toArray⟩,o.parts.map fun p=>(p.1,(p.2:Int)),o.starts,o.fin,(o.pos:Int)⟩:RO),_,_,rfl,?_,by show (0:Int)≤(o.kind:Int); omega,by show (o.kind:Int) < 8; have:=HCAN.out.kind; omega,by have:=HCAN.out.name; simpa [ByteArray.size] using Nat.le_trans this (by omega),by show (o.parts.map _).length≤1000; rw [List.length_map]; have:=HCAN.out.parts.2.1; omega,BZ⟩
      exact zap HOKr.out (fun b off e=>(HOFF.out.1 b off e).2) (fun b off e=>(HOFF.out.2 b off e).2) rfl rfl SZ
end Go.Proofs.YtlpdfglbdijkoaaGreatDoor