/-
  Own texts, several in one (PaP, PaQ, DyQ, RegT).
-/
import Derived.Test.YtlpdfglbdijkoaaGreatDoorMrg17
import Derived.Test.YtlpdfglbdijkoaaGreatDoorMrg16
import Derived.Test.YtlpdfglbdijkoaaGreatDoorMrg4
namespace Go.Proofs.YtlpdfglbdijkoaaGreatDoor
set_option linter.unusedVariables false
set_option linter.unusedSimpArgs false
set_option autoImplicit false
namespace Sc
open Lx
def hd (l:List Tk):Tk:=l.headD tk0
def fail {α:Type} (l:List Tk) (e:Nat):Except (Nat × Nat) α:=.error ((hd l).pos,e)
def isN (k:Nat) (x:List UInt8) (l:List Tk):Bool:=decide ((hd l).kind = k) && (decide (x = []) || decide ((hd l).text = x))
def must (k:Nat) (x:List UInt8) (l:List Tk):Except (Nat × Nat) (Tk × List Tk):=if isN k x l = true then .ok (hd l,l.tail) else fail l 1
def num (a b:Int) (l:List Tk):Except (Nat × Nat) (Int × List Tk) :=
 if (hd l).kind = 2∧((hd l).num < a∨b < (hd l).num) then fail l 5 else match must 2 [] l with
  | .error e=>.error e
  | .ok (t,r)=>.ok (t.num,r)
def partOf (l:List Tk):Except (Nat × Nat) ((Nat × Nat) × List Tk):=match num 1 999999 l with
 | .error e=>.error e
 | .ok (c,l1)=>match num 1 1000000 l1 with
  | .error e=>.error e
  | .ok (w,l2)=>.ok ((c.toNat,w.toNat),l2)
def partsOf:Nat→List Tk→Except (Nat × Nat) (List (Nat × Nat) × List Tk)
 | 0,l=>fail l 2
 | f + 1,l=>match partOf l with
  | .error e=>.error e
  | .ok (p,l1)=>if isN 5 [44] l1 = true then match partsOf f l1.tail with
    | .error e=>.error e
    | .ok (r,l2)=>.ok (p :: r,l2)
   else .ok ([p],l1)
def daysOf:List Tk→List Int × List Tk
 | []=>([],[])
 | t :: l=>if t.kind = 3 then (t.day :: (daysOf l).1,(daysOf l).2) else ([],t :: l)
def op0:Op:=⟨0,0,0,[],[],[],0,0⟩
def most (k:Nat):Int:=if k = 5∨k = 6 then 999 else 999999
def least (k:Nat):Int:=if k = 2 then 0 else 1
def restOf (k:Nat) (l:List Tk):Except (Nat × Nat) (Op × List Tk) :=
 if k = 7 then match must 1 (link 7) (daysOf l).2 with
  | .error e=>.error e
  | .ok (_,l1)=>match must 3 [] l1 with
   | .error e=>.error e
   | .ok (t,l2)=>.ok ({ op0 with kind:=7,starts:=(daysOf l).1,fin:=t.day },l2)
 else match num 1 (most k) l with
  | .error e=>.error e
  | .ok (n,l1)=>if k = 1 then match must 4 [] l1 with
    | .error e=>.error e
    | .ok (t,l2)=>.ok ({ op0 with kind:=1,fr:=n.toNat,name:=t.text },l2)
   else match must 1 (link k) l1 with
    | .error e=>.error e
    | .ok (_,l2)=>if k = 4 then match partsOf 8 l2 with
      | .error e=>.error e
      | .ok (ps,l3)=>.ok ({ op0 with kind:=4,fr:=n.toNat,parts:=ps },l3)
     else match num (least k) (most k) l2 with
      | .error e=>.error e
      | .ok (m,l3)=>.ok ({ op0 with kind:=k,fr:=n.toNat,too:=m.toNat },l3)
def kindOf (l:List Tk):Option Nat:=(List.range 8).find? fun k=>isN 1 (word k) l
def parseOf:Nat→Nat→List Tk→Except (Nat × Nat) (List Op)
 | 0,_,_=>.ok []
 | f + 1,n,l =>
  if (hd l).kind = 0 then .ok []
  else if n = 100 then fail l 2
  else match kindOf l with
   | none=>fail l 17
   | some k=>match restOf k l.tail with
    | .error e=>.error e
    | .ok (o,l1)=>match must 5 [59] l1 with
     | .error e=>.error e
     | .ok (_,l2)=>match parseOf f (n + 1) l2 with
      | .error e=>.error e
      | .ok r=>.ok ({ o with pos:=(hd l).pos } :: r)
def parse (pd:List UInt8→Option Int) (s:List UInt8):Except (Nat × Nat) (List Op) :=
 if 65536 < s.length then .error (0,2) else match split pd s 0 with
  | .error e=>.error e
  | .ok l=>parseOf 101 0 l
structure Op.may (o:Op):Prop where
 kind:o.kind < 8
 fr:o.kind ≠ 7→1≤o.fr∧(o.fr:Int)≤most o.kind
 too:o.kind ≠ 7→o.kind ≠ 1→o.kind ≠ 4→least o.kind≤o.too∧(o.too:Int)≤most o.kind
 parts:o.kind = 4→0 < o.parts.length∧o.parts.length≤8∧∀ p ∈ o.parts,1≤p.1∧p.1≤999999∧1≤p.2∧p.2≤1000000
 fr0:o.kind = 7→o.fr = 0
 to0:(o.kind = 7∨o.kind = 1∨o.kind = 4)→o.too = 0
 name0:o.kind ≠ 1→o.name = []
 parts0:o.kind ≠ 4→o.parts = []
 starts0:o.kind ≠ 7→o.starts = []
 fin0:o.kind ≠ 7→o.fin = 0
end Sc
set_option autoImplicit false
namespace Sc
open Lx
def place (dt:Int→List UInt8) (k:Nat):Nat→List Op→List Op
 | _,[]=>[]
 | i,o :: r=>{ o with pos:=i } :: place dt k (i + (text dt o).length + k) r
section
variable (pd:List UInt8→Option Int) (dt:Int→List UInt8) (dr:Int→Prop)
end
end Sc
namespace Dy
theorem zdt (k:Nat) (h:k < 10):Lib.digitVal (UInt8.ofNat (48 + k)) = some k:=by
 unfold Lib.digitVal
 rw [Sc.u8_nat _ (by omega),if_pos (by omega)]
 simp
theorem zgb:∀ (l:List UInt8) (a:Nat) (b:UInt8) (n d:Nat),Lib.decFrom a l = some n→Lib.digitVal b = some d→Lib.decFrom a (l ++ [b]) = some (n * 10 + d)
 | [],a,b,n,d,h,hd=>by
  simp only [Lib.decFrom,Option.some.injEq] at h
  subst h
  simp [Lib.decFrom,hd]
 | c :: l,a,b,n,d,h,hd=>by
  simp only [Lib.decFrom,List.cons_append] at h ⊢
  cases hc:Lib.digitVal c with
  | none=>rw [hc] at h; cases h
  | some e =>
   rw [hc] at h
   exact zgb l _ b n d h hd
theorem zkw (n:Nat):Lib.decFrom 0 (Lib.decDigits n) = some n:=by
 induction n using Nat.strongRecOn with
 | _ n ih =>
  rw [Lib.decDigits]
  by_cases h:n < 10
  ·rw [dif_pos h]
   simp only [Lib.decFrom,zdt n h]
   simp
  ·rw [dif_neg h,zgb _ 0 _ (n / 10) (n % 10) (ih (n / 10) (by omega)) (zdt _ (by omega))]
   congr 1
   omega
theorem zep (l:List UInt8):∀ c,Lib.decFrom 0 (Lib.repeatL [48] c ++ l) = Lib.decFrom 0 l
 | 0=>rfl
 | c + 1=>by
  rw [← zep l c]
  show Lib.decFrom 0 (48 :: (Lib.repeatL [48] c ++ l)) = _
  generalize Lib.repeatL [48] c ++ l = m
  simp only [Lib.decFrom,show Lib.digitVal 48 = some 0 by rfl]
theorem pad_dig (n size:Nat):∀ b ∈ padL (n:Int) size,48≤b.toNat∧b.toNat≤57:=by
 intro b hb
 unfold padL at hb
 rcases List.mem_append.1 hb with h | h
 ·have key:∀ c,∀ b ∈ Lib.repeatL [48] c,b = (48:UInt8):=fun c=>by
   induction c with
   | zero=>intro b h; cases h
   | succ c ih =>
    intro b h
    rcases List.mem_cons.1 (show b ∈ 48 :: Lib.repeatL [48] c from h) with h | h
    ·exact h
    ·exact ih b h
  rw [key _ b h]; decide
 ·rw [Lib.itoa_nonneg] at h
  exact Sc.dec_dig n b h
theorem pad_ne (n size:Nat):padL (n:Int) size ≠ []:=by
 intro h
 unfold padL at h
 have:=(List.append_eq_nil_iff.1 h).2
 rw [Lib.itoa_nonneg] at this
 exact Sc.dec_ne n this
theorem zhq (n size:Nat):Lib.atoi (padL (n:Int) size) = some (n:Int):=by
 have hd:=pad_dig n size
 have hn:=pad_ne n size
 have hf:Lib.decFrom 0 (padL (n:Int) size) = some n:=by unfold padL; rw [zep,Lib.itoa_nonneg,zkw]
 rcases h:padL (n:Int) size with _ | ⟨b,r⟩
 ·exact absurd h hn
 ·rw [h] at hd hf
  have hb:=hd b (by simp)
  have h45:(b == 45) = false:=by rw [beq_eq_false_iff_ne]; rintro rfl; exact absurd hb (by decide)
  have h43:(b == 43) = false:=by rw [beq_eq_false_iff_ne]; rintro rfl; exact absurd hb (by decide)
  simp only [Lib.atoi,h45,h43,Bool.false_eq_true,if_false,Lib.decNat,List.isEmpty_cons,hf]
  rfl
theorem zki (n size:Nat) (h:(Lib.decDigits n).length≤size):(padL (n:Int) size).length = size:=by
 unfold padL
 rw [List.length_append,zct,Lib.itoa_nonneg]
 omega
theorem zui (n:Nat) (h:n≤9999):(Lib.decDigits n).length≤4:=by
 rw [Lib.decDigits_length]
 by_cases a:n < 10
 ·rw [Lib.nDigits_small a]; omega
 ·rw [Lib.nDigits_big a]
  by_cases b:n / 10 < 10
  ·rw [Lib.nDigits_small b]; omega
  ·rw [Lib.nDigits_big b]
   by_cases c:n / 10 / 10 < 10
   ·rw [Lib.nDigits_small c]; omega
   ·rw [Lib.nDigits_big c,Lib.nDigits_small (by omega)]; omega
theorem zmt (n:Nat) (h:n≤99):(Lib.decDigits n).length≤2:=by
 rw [Lib.decDigits_length]
 by_cases a:n < 10
 ·rw [Lib.nDigits_small a]; omega
 ·rw [Lib.nDigits_big a,Lib.nDigits_small (by omega)]; omega
theorem zqv (y:Int):∀ (f m:Nat) (d:Int),1≤m→bef y ((mon y f m d).1 - 1) + (mon y f m d).2 = bef y (m - 1) + d
 | 0,m,d,_=>rfl
 | f + 1,m,d,h=>by
  unfold mon
  by_cases c:long y m≤d
  ·rw [if_pos c,zqv y f (m + 1) _ (by omega)]
   have e:bef y (m + 1 - 1) = bef y (m - 1) + long y m:=by
    obtain ⟨k,rfl⟩:∃ k,m = k + 1:=⟨m - 1,by omega⟩
    rfl
   rw [e]
   omega
  ·rw [if_neg c]
theorem of_md (n y:Int) (hy:1≤y∧y≤9999) (h1:ahead y≤n) (h2:n < ahead (y + 1)):of y ((md n y).1:Int) ((md n y).2 + 1) = some n∧1≤(md n y).1∧(md n y).1≤12∧0≤(md n y).2∧(md n y).2 < 31:=by
 have hb:=zqw y 12 1 (n - ahead y) rfl (by omega) (by omega) (by omega) (by rw [← ahead_year]; omega)
 have hm:=zqv y 12 1 (n - ahead y) (by omega)
 change 1≤(md n y).1∧(md n y).1≤12∧0≤(md n y).2∧(md n y).2 < long y (md n y).1 at hb
 change bef y ((md n y).1 - 1) + (md n y).2 = bef y 0 + (n - ahead y) at hm
 have hlp:=long_pos y (md n y).1 hb.1 hb.2.1
 refine ⟨?_,hb.1,hb.2.1,hb.2.2.1,by omega⟩
 unfold of
 have hok:ofOk y ((md n y).1:Int) ((md n y).2 + 1) = true:=by
  simp only [ofOk,Bool.and_eq_true,decide_eq_true_eq,Int.toNat_natCast]
  omega
 rw [if_pos hok,Int.toNat_natCast]
 have e0:bef y 0 = 0:=rfl
 congr 1
 omega
theorem zmo (a b:List UInt8) (k:Nat) (h:k = a.length):(a ++ b).getD k 0 = b.getD 0 0:=by
 subst h
 rw [List.getD_eq_getElem?_getD,List.getElem?_append_right (Nat.le_refl _),Nat.sub_self,← List.getD_eq_getElem?_getD]
noncomputable def text (n:Int):List UInt8:=open Classical in if h:∃ y:Int,1≤y∧y≤9999∧ahead y≤n∧n < ahead (y + 1) then txt h.choose n else []
def inY (n:Int):Prop:=-719162≤n∧n < 2932897
theorem zph (n y:Int) (hy:1≤y∧y≤9999) (h1:ahead y≤n) (h2:n < ahead (y + 1)):text n = txt y n:=by
 have h:∃ y:Int,1≤y∧y≤9999∧ahead y≤n∧n < ahead (y + 1):=⟨y,hy.1,hy.2,h1,h2⟩
 unfold text
 rw [dif_pos h]
 have hs:=h.choose_spec
 generalize h.choose = z at *
 have e:z = y:=by
  rcases Int.lt_trichotomy z y with c | c | c
  ·have:ahead (z + 1)≤ahead y:=by
    by_cases e:z + 1 = y
    ·rw [e]; omega
    ·exact Int.le_of_lt (ahead_lt (z + 1) y (by omega))
   omega
  ·exact c
  ·have:ahead (y + 1)≤ahead z:=by
    by_cases e:y + 1 = z
    ·rw [e]; omega
    ·exact Int.le_of_lt (ahead_lt (y + 1) z (by omega))
   omega
 rw [e]
theorem txt_nat (n y:Int) (hy:1≤y∧y≤9999) (h1:ahead y≤n) (h2:n < ahead (y + 1)):∃ a b c:Nat,txt y n = padL (a:Int) 4 ++ [45] ++ padL (b:Int) 2 ++ [45] ++ padL (c:Int) 2∧y = a∧((md n y).1:Int) = b∧(md n y).2 + 1 = c∧a≤9999∧b≤99∧c≤99:=by
 obtain ⟨_,a1,a2,a3,a4⟩:=of_md n y hy h1 h2
 refine ⟨y.toNat,(md n y).1,((md n y).2 + 1).toNat,?_,by omega,rfl,by omega,by omega,by omega,by omega⟩
 unfold txt dayT
 rw [show ((y.toNat:Nat):Int) = y by omega,show ((((md n y).2 + 1).toNat:Nat):Int) = (md n y).2 + 1 by omega]
theorem zqd (n y:Int) (hy:1≤y∧y≤9999) (h1:ahead y≤n) (h2:n < ahead (y + 1)):parse (txt y n) = some n:=by
 obtain ⟨a,b,c,e,ea,eb,ec,ha,hb,hc⟩:=txt_nat n y hy h1 h2
 have la:=zki a 4 (zui a ha)
 have lb:=zki b 2 (zmt b hb)
 have lc:=zki c 2 (zmt c hc)
 have e1:txt y n = padL (a:Int) 4 ++ ([45] ++ (padL (b:Int) 2 ++ ([45] ++ padL (c:Int) 2))):=by rw [e]; simp
 have hlen:(txt y n).length = 10:=by rw [e1]; simp; omega
 have g4:(txt y n).getD 4 0 = 45:=by rw [e1,zmo _ _ 4 la.symm]; rfl
 have e7:txt y n = (padL (a:Int) 4 ++ ([45] ++ padL (b:Int) 2)) ++ ([45] ++ padL (c:Int) 2):=by rw [e]; simp
 have g7:(txt y n).getD 7 0 = 45:=by rw [e7,zmo _ _ 7 (by simp; omega)]; rfl
 have t4:(txt y n).take 4 = padL (a:Int) 4:=by rw [e1,List.take_left' la]
 have t5:((txt y n).drop 5).take 2 = padL (b:Int) 2:=by
  have e5:txt y n = (padL (a:Int) 4 ++ [45]) ++ (padL (b:Int) 2 ++ ([45] ++ padL (c:Int) 2)):=by rw [e]; simp
  rw [e5,List.drop_left' (by simp; omega),List.take_left' lb]
 have t8:(txt y n).drop 8 = padL (c:Int) 2:=by
  have e8:txt y n = (padL (a:Int) 4 ++ ([45] ++ (padL (b:Int) 2 ++ [45]))) ++ padL (c:Int) 2:=by rw [e]; simp
  rw [e8,List.drop_left' (by simp; omega)]
 unfold parse
 rw [if_pos ⟨hlen,by rw [g4]; rfl,by rw [g7]; rfl⟩,t4,t5,t8,zhq,zhq,zhq]
 unfold parse3
 dsimp only
 rw [← ea,← eb,← ec,(of_md n y hy h1 h2).1]
 simp
theorem parse_text (n:Int) (h:inY n):parse (text n) = some n:=by
 obtain ⟨y,a,b,c,d⟩:=year_ex n h
 rw [zph n y ⟨a,b⟩ c d]
 exact zqd n y ⟨a,b⟩ c d
end Dy
open Go.RowKit
def tailOk (ops:Array Oper) (f mb ma mz:Nat):Bool :=
 decide (mb < ops.size) && decide (ma < ops.size) && decide (mz < ops.size) && !(mb == ma) && !(mb == mz) && !(ma == mz) && (afterOf ops mz).contains ma &&
 (List.range ops.size).all fun i=>i == mz || waits ops f ma i
def settledT (ops:Array Oper) (mz:Nat) (o:Oper) (s:Nat):Bool :=
 (List.range ops.size).all fun j=>j == mz || (match dstAt ops j with | some t=>t != s || ((o.after.toList.filter (Region.binds .any)).map (·.on)).contains j | none=>true)
def regSetT (ops:Array Oper) (mz sz:Nat):Bool :=
 (List.range ops.size).all fun i=>((ops[i]?).map fun o =>
  (match o.op with | .select _ _=>false | _=>true) &&
  (o.op.operands.toList.all fun x=>match x with | .tmp s=>decide (s < sz) && settledT ops mz o s | _=>true) &&
  (match o.guard with | some (j,_)=>(match dstAt ops j with | some s=>decide (s < sz) && settledT ops mz o s | none=>true) | none=>true)).getD true
theorem zfz {ops:Array Oper} {L:Nat→Bool} {V:Nat→Value} {a0:Act} (s:Nat) (hs:s < a0.tmps.size):∀ n,(∀ j,j < n→L j = true→dstAt ops j ≠ some s)→(fill ops L V a0 n).tmps.getD s undef = a0.tmps.getD s undef
 | 0,_=>rfl
 | n + 1,h=>by
  have ih:=zfz (ops:=ops) (L:=L) (V:=V) s hs n (fun j hj=>h j (by omega))
  unfold fill
  by_cases c:L n = true
  ·rw [if_pos c,zhb _ _ _ _ (by rw [zcq]; exact hs),if_neg (h n (by omega) c),ih]
  ·rw [if_neg c,ih]
theorem zbm {ops:Array Oper} {a0:Act} {L:Nat→Bool} {V vals:Nat→Value} {mz:Nat} (hd:∀ i j s,dstAt ops i = some s→dstAt ops j = some s→i = j) {o:Oper} (s:Nat) (hs:s < a0.tmps.size) (h:settledT ops mz o s = true)
  (hpre:∀ k,((o.after.toList.filter (Region.binds .any)).map (·.on)).contains k = true→L k = true) (hz:L mz = false) (hV:∀ j,j < ops.size→L j = true→V j = vals j) :
  (fill ops L V a0 ops.size).eval (.tmp s) = (fill ops (fun j=>j != mz) vals a0 ops.size).eval (.tmp s):=by
 show (fill ops L V a0 ops.size).tmps.getD s undef = (fill ops (fun j=>j != mz) vals a0 ops.size).tmps.getD s undef
 have h:=List.all_eq_true.1 h
 by_cases c:∃ j,j < ops.size∧j ≠ mz∧dstAt ops j = some s
 ·obtain ⟨j,hj,hjz,hjs⟩:=c
  have h1:=h j (by simpa using hj)
  rw [hjs] at h1
  have hne:(j == mz) = false:=beq_eq_false_iff_ne.2 hjz
  simp only [hne,bne_self_eq_false,Bool.false_or] at h1
  have hL:=hpre j h1
  rw [zem hd j s hs hL hjs ops.size hj,hV j hj hL]
  exact (zem hd j s hs (by simpa using hjz) hjs ops.size hj).symm
 ·rw [zfz s hs ops.size fun j hj hL e=>c ⟨j,hj,(fun e2=>by rw [e2,hz] at hL; cases hL),e⟩]
  exact (zfz s hs ops.size fun j hj hL e=>c ⟨j,hj,by simpa using hL,e⟩).symm
def tailV (mb ma mz:Nat) (vals:Nat→Value) (vb va:Value) (j:Nat):Value:=if j = mb then vb else if j = ma then va else if j = mz then va else vals j
section
variable {P:Program} {Q:Exit→Act→World→Prop} {ops:Array Oper} {a0:Act}
def StepF (P:Program) (Q:Exit→Act→World→Prop) (ops:Array Oper) (a0:Act) (I:(Nat→Bool)→(Nat→Value)→World→Prop) (i:Nat) (o:Oper):Prop :=
 ∀ (L:Nat→Bool) (V:Nat→Value) (w:World),L i = false→(∀ k,((o.after.toList.filter (Region.binds .any)).map (·.on)).contains k = true→L k = true)→I L V w →
  wpOp P ops Q i (fun a' w'=>∃ v,a' = (fill ops L V a0 ops.size).put (dstAt ops i) v∧I (Upd L i) (updV V i v) w') (fill ops L V a0 ops.size) w
theorem zfq (I:(Nat→Bool)→(Nat→Value)→World→Prop) (hok:regOk ops = true)
  (hstep:∀ (i:Nat) (o:Oper),ops[i]? = some o→StepF P Q ops a0 I i o)
  (hend:∀ V w,I (fun _=>true) V w→Q .normal (fill ops (fun _=>true) V a0 ops.size) w) :
  ∀ fuel (listed:Array Bool) V w,listed.size = ops.size→((List.range ops.size).countP fun i=>!listed.getD i true)≤fuel→I (fun i=>listed.getD i true) V w →
   wpAny P .any ops Q fuel listed (fill ops (fun i=>listed.getD i true) V a0 ops.size) w:=by
 have hdst:=zco hok
 have allDone:∀ (listed:Array Bool),listed.size = ops.size→Region.ready .any ops listed = []→(fun i=>listed.getD i true) = fun _=>true:=by
  intro listed hsz hr
  funext i
  have main:∀ n i,i < n→listed.getD i true = true:=by
   intro n
   induction n with
   | zero=>intro i h; omega
   | succ n ih =>
    intro i hi
    by_cases c:listed.getD i true = true
    ·exact c
    ·exfalso
     have hlt:i < ops.size:=by
      by_cases c2:i < ops.size
      ·exact c2
      ·exact absurd (by simp [Array.getD,show ¬ i < listed.size by omega]) c
     have hm:i ∈ Region.ready .any ops listed:=by
      unfold Region.ready
      rw [List.mem_filter]
      refine ⟨by simpa using hlt,?_⟩
      have ho:ops[i]? = some ops[i]:=Array.getElem?_eq_getElem hlt
      rw [ho]
      simp only [Option.map_some,Option.getD_some,Bool.and_eq_true]
      refine ⟨by simpa using c,?_⟩
      rw [Array.all_eq_true_iff_forall_mem]
      intro e he
      by_cases hbe:Region.binds .any e = true
      ·have hlte:=zbv hok i _ ho e he hbe
       have h2:=ih e.on (by omega)
       have h3:listed.getD e.on false = listed.getD e.on true:=by simp [Array.getD,show e.on < listed.size by omega]
       rw [h3,h2]; simp
      ·simp [hbe]
     rw [hr] at hm; cases hm
  exact main (i + 1) i (by omega)
 intro fuel
 induction fuel with
 | zero =>
  intro listed V w hsz hc hI
  have hr:Region.ready .any ops listed = []:=by
   unfold Region.ready
   rw [List.filter_eq_nil_iff]
   intro i hi
   have h0:(List.range ops.size).countP (fun i=>!listed.getD i true) = 0:=by omega
   have h1:=List.countP_eq_zero.1 h0 i hi
   simp at h1 ⊢
   intro h2; rw [h1] at h2; cases h2
  have hL:=allDone listed hsz hr
  refine ⟨hr,?_⟩
  rw [hL] at hI ⊢
  exact hend V w hI
 | succ fuel ih =>
  intro listed V w hsz hc hI
  refine ⟨fun hr=>?_,fun i hi=>?_⟩
  ·have hL:=allDone listed hsz hr
   rw [hL] at hI ⊢
   exact hend V w hI
  ·have hi':=hi
   unfold Region.ready at hi'
   rw [List.mem_filter] at hi'
   obtain ⟨hr,hp⟩:=hi'
   have hlt:i < ops.size:=by simpa using hr
   have ho:ops[i]? = some ops[i]:=Array.getElem?_eq_getElem hlt
   rw [ho] at hp
   simp only [Option.map_some,Option.getD_some,Bool.and_eq_true] at hp
   obtain ⟨hp1,hp2⟩:=hp
   have hLi:listed.getD i true = false:=by simpa using hp1
   have hpre:∀ e ∈ (ops[i]).after,Region.binds .any e = true→listed.getD e.on true = true:=by
    intro e he hbe
    have h1:=(Array.all_eq_true_iff_forall_mem.1 hp2) e he
    have hlte:=zbv hok i _ ho e he hbe
    rw [hbe] at h1
    have h3:listed.getD e.on false = listed.getD e.on true:=by simp [Array.getD,show e.on < listed.size by omega]
    rw [h3] at h1; simpa using h1
   have hs:=hstep i _ ho (fun j=>listed.getD j true) V w hLi (fun k hk=>by
    simp only [List.contains_iff_mem,List.mem_map,List.mem_filter] at hk
    obtain ⟨e,⟨he,hbe⟩,rfl⟩:=hk
    exact hpre e (by simpa using he) hbe) hI
   refine wpOp_mono ?_ hs
   rintro a' w' ⟨v,rfl,hI'⟩
   rw [zhk hdst i v hLi ops.size hlt]
   have hU:Upd (fun j=>listed.getD j true) i = fun j=>(listed.setIfInBounds i true).getD j true:=by
    funext j
    unfold Upd
    by_cases c:i = j
    ·subst c; simp [Array.getD]
    ·have c':¬ j = i:=fun h=>c h.symm
     rw [getD_set_ne true c]
     simp [c']
   rw [hU] at hI' ⊢
   refine ih _ _ _ (by simpa using hsz) ?_ hI'
   have hcount:(List.range ops.size).countP (fun j=>!(listed.setIfInBounds i true).getD j true) + 1≤(List.range ops.size).countP (fun j=>!listed.getD j true):=by
    have hsplit:∀ l:List Nat,l.Nodup→i ∈ l→l.countP (fun j=>!(listed.setIfInBounds i true).getD j true) + 1 = l.countP (fun j=>!listed.getD j true):=by
     intro l hn hm
     induction l with
     | nil=>cases hm
     | cons x l ihl =>
      rw [List.nodup_cons] at hn
      by_cases hx:x = i
      ·subst hx
       have e1:(listed.setIfInBounds x true).getD x true = true:=by simp [Array.getD]
       have e2:∀ l:List Nat,x ∉ l→l.countP (fun j=>!(listed.setIfInBounds x true).getD j true) = l.countP (fun j=>!listed.getD j true):=by
        intro l hl
        apply List.countP_congr
        intro y hy
        rw [getD_set_ne true (fun h=>hl (by rw [h]; exact hy))]
       rw [List.countP_cons,List.countP_cons,e2 l hn.1,e1,hLi]; simp
      ·have hm2:i ∈ l:=by
        rcases List.mem_cons.1 hm with h | h
        ·exact absurd h.symm hx
        ·exact h
       have:=ihl hn.2 hm2
       rw [List.countP_cons,List.countP_cons,getD_set_ne true (fun h=>hx h.symm)]
       omega
    have:=hsplit _ List.nodup_range hr
    omega
   omega
theorem zdw {id n:Nat} (hm:P.follows .mixedOrders = true) (I:(Nat→Bool)→(Nat→Value)→World→Prop) {w0:World} (hok:regOk ops = true)
  (h0:I (fun i=>decide (ops.size≤i)) (fun _=>undef) w0.drew)
  (hstep:∀ (i:Nat) (o:Oper),ops[i]? = some o→StepF P Q ops a0 I i o)
  (hn:ops.size = n) (hend:∀ V w,I (fun _=>true) V w→Q .normal (fill ops (fun _=>true) V a0 n) w):(Code.region id ops true).wp P Q a0 w0:=by
 subst hn
 refine wp_region_any hm ?_
 have hL:(fun i=>(Array.replicate ops.size false).getD i true) = fun i=>decide (ops.size≤i):=by
  funext i
  by_cases c:i < ops.size
  ·simp [Array.getD,c]
  ·simp [Array.getD,c]; omega
 have hf:∀ n,n≤ops.size→fill ops (fun i=>(Array.replicate ops.size false).getD i true) (fun _=>undef) a0 n = a0:=by
  intro n
  induction n with
  | zero=>intro _; rfl
  | succ n ih =>
   intro hn
   unfold fill
   rw [if_neg (by simp [Array.getD,show n < ops.size by omega]),ih (by omega)]
 have h1:=zfq (a0:=a0) I hok hstep hend ops.size (Array.replicate ops.size false) (fun _=>undef) w0.drew (by simp) (by
  refine Nat.le_trans List.countP_le_length ?_
  simp) (hL ▸ h0)
 rw [hf ops.size (Nat.le_refl _)] at h1
 exact h1
def RunsTo (P:Program) (ops:Array Oper) (o:Oper) (F:Act) (w:World) (T:Value→World→Prop):Prop :=
 Region.wanted o (yielded ops F.tmps) = true∧∃ v w',(execOp F.eval o).run P w = .ok (.value v) w'∧T v w'
theorem zfp {id n:Nat} (mb ma mz f:Nat) (hm:P.follows .mixedOrders = true) (S:World→Prop) (G A:World→Value→Prop) (vals:Nat→Value) {w0:World} (hok:regOk ops = true) (hset:regSetT ops mz a0.tmps.size = true) (htail:tailOk ops f mb ma mz = true)
  (h0:S w0.drew) (hn:ops.size = n) (hS:∀ w w',S w→Below w.heap.size w w'→S w') (hG:∀ w w' v,Below w.heap.size w w'→G w v→G w' v)
  (h:∀ F Fz:Value→Value→Act,(∀ vb va,fill ops (fun j=>j != mz) (tailV mb ma mz vals vb va) a0 n = F vb va)→(∀ vb va,fill ops (fun _=>true) (tailV mb ma mz vals vb va) a0 n = Fz vb va) →
   (∀ (i:Nat) (o:Oper),ops[i]? = some o→i ≠ mb→i ≠ ma→i ≠ mz→∀ vb va w,S w→YieldsV P ops (fun w'=>Below w.heap.size w w') o (vals i) (F vb va) w) ∧
   (∀ o:Oper,ops[mb]? = some o→∀ vb va w,S w→RunsTo P ops o (F vb va) w fun v w'=>Below w.heap.size w w'∧G w' v) ∧
   (∀ o:Oper,ops[ma]? = some o→∀ vb va w,S w→G w vb→RunsTo P ops o (F vb va) w fun v w'=>A w' v) ∧
   (∀ o:Oper,ops[mz]? = some o→∀ vb va w,RunsTo P ops o (F vb va) w fun v w'=>v = va∧w' = w) ∧
   (∀ vb va w,A w va→Q .normal (Fz vb va) w)):(Code.region id ops true).wp P Q a0 w0:=by
 subst hn
 obtain ⟨hk,hb,ha,hz,hq⟩:=h _ _ (fun vb va=>rfl) (fun vb va=>rfl)
 have hdst:=zco hok
 unfold tailOk at htail
 simp only [Bool.and_eq_true,decide_eq_true_eq,Bool.not_eq_true',beq_eq_false_iff_ne,ne_eq] at htail
 obtain ⟨⟨⟨⟨⟨⟨⟨t1,t2⟩,t3⟩,t4⟩,t5⟩,t6⟩,t7⟩,t8⟩:=htail
 have t8':∀ i,i < ops.size→i ≠ mz→waits ops f ma i = true:=fun i hi hne=>by
  have:=List.all_eq_true.1 t8 i (by simpa using hi)
  rw [Bool.or_eq_true] at this
  rcases this with e | e
  ·exact absurd (by simpa using e) hne
  ·exact e
 refine zdw (n:=ops.size) hm (fun L V w=>(∀ j k,j < ops.size→L j = true→(afterOf ops j).contains k = true→L k = true)∧(∀ j,j < ops.size→j ≠ mb→j ≠ ma→j ≠ mz→L j = true→V j = vals j)∧(L mz = true→L ma = true∧V mz = V ma)∧((L ma = false∧S w∧(L mb = true→G w (V mb)))∨(L ma = true∧A w (V ma)))) hok ?_ ?_ rfl ?_
 ·refine ⟨fun j k hj hL _=>by simp at hL; omega,fun j hj _ _ _ hL=>by simp at hL; omega,fun hL=>by simp at hL; omega,.inl ⟨by simp; omega,h0,fun hL=>by simp at hL; omega⟩⟩
 ·intro i o ho L V w hL hpre hI
  obtain ⟨hC,hV,hZ,hP⟩:=hI
  have hlt:i < ops.size:=by
   by_cases c:i < ops.size
   ·exact c
   ·rw [Array.getElem?_eq_none (by omega)] at ho; cases ho
  have hVV:∀ j,j < ops.size→L j = true→V j = tailV mb ma mz vals (V mb) (V ma) j:=fun j hj hLj=>by
   unfold tailV
   by_cases c1:j = mb
   ·rw [if_pos c1,c1]
   ·rw [if_neg c1]
    by_cases c2:j = ma
    ·rw [if_pos c2,c2]
    ·rw [if_neg c2]
     by_cases c3:j = mz
     ·rw [if_pos c3,c3]; rw [c3] at hLj; exact (hZ hLj).2
     ·rw [if_neg c3]; exact hV j hj c1 c2 c3 hLj
  obtain ⟨F,hF⟩:∃ F,F = fill ops (fun j=>j != mz) (tailV mb ma mz vals (V mb) (V ma)) a0 ops.size:=⟨_,rfl⟩
  obtain ⟨a,haa⟩:∃ a,a = fill ops L V a0 ops.size:=⟨_,rfl⟩
  rw [← haa]
  have hLz:L mz = false:=by
   by_cases c:i = mz
   ·rw [← c]; exact hL
   ·cases hc:L mz with
    | false=>rfl
    | true =>
     rw [zbr hC f ma i t2 (hZ hc).1 (t8' i hlt c)] at hL
     cases hL
  unfold regSetT at hset
  have hs:=List.all_eq_true.1 hset i (by simpa using hlt)
  rw [ho] at hs
  simp only [Option.map_some,Option.getD_some,Bool.and_eq_true] at hs
  obtain ⟨⟨hsel,hops⟩,hgd⟩:=hs
  have hx:execOp a.eval o = execOp F.eval o:=by
   refine execOp_congr o ?_ ?_
   ·intro cs b e
    rw [e] at hsel
    cases hsel
   ·intro x hx
    have h1:=List.all_eq_true.1 hops x (by simpa using hx)
    rw [hF]
    cases x with
    | tmp s =>
     dsimp only at h1
     rw [Bool.and_eq_true,decide_eq_true_eq] at h1
     rw [haa]
     exact zbm hdst s h1.1 h1.2 hpre hLz hVV
    | _=>rfl
  have hw:Region.wanted o (yielded ops a.tmps) = Region.wanted o (yielded ops F.tmps):=by
   unfold Region.wanted
   cases hg:o.guard with
   | none=>rfl
   | some gw =>
    obtain ⟨g,want⟩:=gw
    dsimp only
    rw [zbq,zbq]
    rw [hg] at hgd
    dsimp only at hgd
    cases hds:dstAt ops g with
    | none=>rfl
    | some s =>
     rw [hds] at hgd
     dsimp only at hgd ⊢
     rw [Bool.and_eq_true,decide_eq_true_eq] at hgd
     have h2:=zbm hdst s hgd.1 hgd.2 hpre hLz hVV
     rw [← hF,← haa] at h2
     have h3:a.tmps.getD s undef = F.tmps.getD s undef:=h2
     rw [h3]
  have hC':∀ j k,j < ops.size→Upd L i j = true→(afterOf ops j).contains k = true→Upd L i k = true:=fun j k hj hU hk=>by
   by_cases c:j = i
   ·have e:afterOf ops i = (o.after.toList.filter (Region.binds .any)).map (·.on):=by unfold afterOf; rw [ho]
    rw [c,e] at hk
    have:=hpre k hk
    unfold Upd
    rw [this]
    rfl
   ·have:=hC j k hj (by simpa [Upd,c] using hU) hk
    unfold Upd
    rw [this]
    rfl
  have hd:dstAt ops i = o.dst:=by unfold dstAt; rw [ho]; rfl
  have hLma:i ≠ mz→L ma = false:=fun hne=>by
   cases hc:L ma with
   | false=>rfl
   | true =>
    rw [zbr hC f ma i t2 hc (t8' i hlt hne)] at hL
    exact hL
  have hU:∀ j,j ≠ i→Upd L i j = L j:=fun j c=>by unfold Upd; simp [c]
  have hUi:Upd L i i = true:=by unfold Upd; simp
  have hVi:∀ v,updV V i v i = v:=fun v=>by unfold updV; simp
  have hVo:∀ v j,j ≠ i→updV V i v j = V j:=fun v j c=>by unfold updV; simp [c]
  unfold wpOp
  simp only [ho]
  rw [hw,hd]
  by_cases cz:i = mz
  ·-- the move of the answer
   subst cz
   have hma:L ma = true:=hpre ma (by
    have e:afterOf ops i = (o.after.toList.filter (Region.binds .any)).map (·.on):=by unfold afterOf; rw [ho]
    rw [← e]; exact t7)
   obtain ⟨hwd,v,w',hr,rfl,rfl⟩:=hz o ho (V mb) (V ma) w
   rw [← hF] at hwd hr
   rw [if_pos hwd]
   refine .inl ?_
   unfold Oper.wp
   rw [hx,hr]
   rcases hP with ⟨e,_⟩ | ⟨_,hA⟩
   ·rw [hma] at e; cases e
   ·refine ⟨V ma,rfl,hC',fun j hj c1 c2 c3 hLj=>?_,fun _=>⟨by rw [hU ma (Ne.symm (Ne.symm t6))]; exact hma,by rw [hVi,hVo _ ma t6]⟩,.inr ⟨by rw [hU ma t6]; exact hma,by rw [hVo _ ma t6]; exact hA⟩⟩
    rw [hVo _ j c3]
    exact hV j hj c1 c2 c3 (by rwa [hU j c3] at hLj)
  ·have hma:=hLma cz
   obtain ⟨hSw,hGw⟩:S w∧(L mb = true→G w (V mb)):=by
    rcases hP with ⟨_,b,c⟩ | ⟨e,_⟩
    ·exact ⟨b,c⟩
    ·rw [hma] at e; cases e
   have hmz:L mz = false:=by
    cases hc:L mz with
    | false=>rfl
    | true=>rw [(hZ hc).1] at hma; cases hma
   by_cases ca:i = ma
   ·-- the append
    subst ca
    have hLb:L mb = true:=by
     have hw2:=t8' mb t1 t5
     have hall:∀ (f m:Nat),m < ops.size→m ≠ i→L m = true→waits ops f m mb = true→L mb = true:=fun f m hm2 _ hLm hw3=>zbr hC f m mb hm2 hLm hw3
     cases f with
     | zero =>
      have:i = mb:=by simpa [waits] using hw2
      exact absurd this.symm t4
     | succ f =>
      unfold waits at hw2
      rw [Bool.or_eq_true] at hw2
      rcases hw2 with e | e
      ·exact absurd (by simpa using e) (Ne.symm t4)
      ·obtain ⟨j,hj,hjw⟩:=List.any_eq_true.1 e
       have hLj:L j = true:=hpre j (by
        have e:afterOf ops i = (o.after.toList.filter (Region.binds .any)).map (·.on):=by unfold afterOf; rw [ho]
        rw [← e]; simpa using hj)
       by_cases hjs:j < ops.size
       ·exact zbr hC f j mb hjs hLj hjw
       ·by_cases ejm:j = mb
        ·rw [← ejm]; exact hLj
        ·rw [zda f j mb hjs ejm] at hjw; cases hjw
    obtain ⟨hwd,v,w',hr,hA⟩:=ha o ho (V mb) (V i) w hSw (hGw hLb)
    rw [← hF] at hwd hr
    rw [if_pos hwd]
    refine .inl ?_
    unfold Oper.wp
    rw [hx,hr]
    refine ⟨v,rfl,hC',fun j hj c1 c2 c3 hLj=>?_,fun hLz=>?_,.inr ⟨hUi,by rw [hVi]; exact hA⟩⟩
    ·rw [hVo _ j c2]
     exact hV j hj c1 c2 c3 (by rwa [hU j c2] at hLj)
    ·rw [hU mz (Ne.symm t6),hmz] at hLz; cases hLz
   ·by_cases cb:i = mb
    ·-- the row that is made
     subst cb
     obtain ⟨hwd,v,w',hr,hB,hGv⟩:=hb o ho (V i) (V ma) w hSw
     rw [← hF] at hwd hr
     rw [if_pos hwd]
     refine .inl ?_
     unfold Oper.wp
     rw [hx,hr]
     refine ⟨v,rfl,hC',fun j hj c1 c2 c3 hLj=>?_,fun hLz=>?_,.inl ⟨by rw [hU ma (Ne.symm ca)]; exact hma,hS w w' hSw hB,fun _=>by rw [hVi]; exact hGv⟩⟩
     ·rw [hVo _ j c1]
      exact hV j hj c1 c2 c3 (by rwa [hU j c1] at hLj)
     ·rw [hU mz (Ne.symm cz),hmz] at hLz; cases hLz
    ·have hy:=hk i o ho cb ca cz (V mb) (V ma) w hSw
     rw [← hF] at hy
     have hkeep:∀ w',Below w.heap.size w w'→(∀ j k,j < ops.size→Upd L i j = true→(afterOf ops j).contains k = true→Upd L i k = true)∧(∀ j,j < ops.size→j ≠ mb→j ≠ ma→j ≠ mz→Upd L i j = true→updV V i (vals i) j = vals j)∧(Upd L i mz = true→Upd L i ma = true∧updV V i (vals i) mz = updV V i (vals i) ma)∧((Upd L i ma = false∧S w'∧(Upd L i mb = true→G w' (updV V i (vals i) mb)))∨(Upd L i ma = true∧A w' (updV V i (vals i) ma))):=fun w' hB=>by
      refine ⟨hC',fun j hj c1 c2 c3 hLj=>?_,fun hLz=>?_,.inl ⟨by rw [hU ma (Ne.symm ca)]; exact hma,hS w w' hSw hB,fun hLb=>?_⟩⟩
      ·by_cases c:j = i
       ·rw [c,hVi]
       ·rw [hVo _ j c]
        exact hV j hj c1 c2 c3 (by rwa [hU j c] at hLj)
      ·rw [hU mz (Ne.symm cz),hmz] at hLz; cases hLz
      ·rw [hVo _ mb (Ne.symm cb)]
       rw [hU mb (Ne.symm cb)] at hLb
       exact hG w w' _ hB (hGw hLb)
     rcases hy with ⟨h1,h2,h3⟩ | ⟨h1,w',h2,h3⟩ | ⟨h1,hv,w',h2,h3⟩ | ⟨h1,fn,args,w',h2,h3⟩
     ·rw [if_neg (by rw [h1]; simp)]
      exact ⟨undef,rfl,by rw [← h2]; exact hkeep w h3⟩
     ·rw [if_pos h1]
      refine .inl ?_
      unfold Oper.wp
      rw [hx,h2]
      exact ⟨vals i,rfl,hkeep w' h3⟩
     ·rw [if_pos h1]
      refine .inl ?_
      unfold Oper.wp
      rw [hx,h2]
      exact ⟨undef,rfl,by rw [← hv]; exact hkeep w' h3⟩
     ·rw [if_pos h1]
      refine .inl ?_
      unfold Oper.wp
      rw [hx,h2,Oper.upon_enter]
      refine h3.mono ?_
      rintro e w'' ⟨rfl,hS'⟩
      exact ⟨vals i,rfl,hkeep w'' hS'⟩
 ·intro V w hI
  obtain ⟨_,hV,hZ,hP⟩:=hI
  have e:fill ops (fun _=>true) V a0 ops.size = fill ops (fun _=>true) (tailV mb ma mz vals (V mb) (V ma)) a0 ops.size:=by
   refine zca ops.size fun j hj=>⟨rfl,fun _=>?_⟩
   unfold tailV
   by_cases c1:j = mb
   ·rw [if_pos c1,c1]
   ·rw [if_neg c1]
    by_cases c2:j = ma
    ·rw [if_pos c2,c2]
    ·rw [if_neg c2]
     by_cases c3:j = mz
     ·rw [if_pos c3,c3]; exact (hZ rfl).2
     ·rw [if_neg c3]; exact hV j hj c1 c2 c3 rfl
  rw [e]
  rcases hP with ⟨h1,_⟩ | ⟨_,hA⟩
  ·cases h1
  ·exact hq (V mb) (V ma) w hA
end
end Go.Proofs.YtlpdfglbdijkoaaGreatDoor