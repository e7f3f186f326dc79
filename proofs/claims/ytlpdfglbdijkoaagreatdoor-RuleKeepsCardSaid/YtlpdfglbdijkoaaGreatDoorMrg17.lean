/-
  Own texts, several in one (LexQ, Tok, ScP, Split).
-/
import Derived.Test.YtlpdfglbdijkoaaGreatDoorMrg15
import Derived.Test.YtlpdfglbdijkoaaGreatDoorMrg16
import Derived.Lib.ItoaNum
namespace Go.Proofs.YtlpdfglbdijkoaaGreatDoor
set_option linter.unusedVariables false
set_option linter.unusedSimpArgs false
set_option autoImplicit false
namespace Lx
variable (pd:List UInt8→Option Int)
def join (ts us:Except (Nat × Nat) (List Tk)):Except (Nat × Nat) (List Tk):=match ts with
 | .error e=>.error e
 | .ok l=>match us with
  | .error e=>.error e
  | .ok m=>.ok (l.dropLast ++ m)
theorem join_cons (t:Tk) (ts us:Except (Nat × Nat) (List Tk)) (h:ts ≠ .ok []):join (consE t ts) us = consE t (join ts us):=by
 rcases ts with e | ts
 ·rfl
 ·rcases us with e | us
  ·rfl
  ·rcases ts with _ | ⟨a,ts⟩
   ·exact absurd rfl h
   ·rfl
theorem join_nil (i:Nat) (us:Except (Nat × Nat) (List Tk)):join (.ok [tk0.put i]) us = us:=by rcases us with e | us <;> rfl
def Tk.up (k:Nat) (t:Tk):Tk:={ t with pos:=t.pos + k }
def Tk.bare (t:Tk):Tk:=t.put 0
end Lx
open Go.RowKit
def tks (l:List Lx.Tk):List Value:=l.flatMap tk
theorem tks_app (l m:List Lx.Tk):tks (l ++ m) = tks l ++ tks m:=by simp [tks]
theorem zfk (t:Lx.Tk):(tk t).length = 5:=rfl
theorem zpf (l:List Lx.Tk):(tks l).length = l.length * 5:=by
 induction l with
 | nil=>rfl
 | cons t l ih=>show (tk t ++ tks l).length = _; rw [List.length_append,ih,zfk,List.length_cons]; omega
theorem info_tk:∃ i,Tryz.prog.info? 159 = some i∧i.zero = some (.agg (tk Lx.tk0).toArray)∧i.size = 5∧i.bytes = 48:=by
 have h:(Tryz.prog.info? 159).map (fun i=>(i.zero,i.size,i.bytes)) = some (some (.agg (tk Lx.tk0).toArray),5,48):=by kernel_rfl
 obtain ⟨i,hi,h⟩:=Option.map_eq_some_iff.1 h
 simp only [Prod.mk.injEq] at h
 exact ⟨i,hi,h.1,h.2.1,h.2.2⟩
theorem tk_all (t:Lx.Tk):∀ u ∈ tk t,u.oneCell' = true:=by
 intro u hu
 simp [tk] at hu
 rcases hu with rfl | rfl | rfl | rfl | rfl <;> rfl
theorem zpg (l:List Lx.Tk):∀ (i:Nat),i < l.length→∀ j v,(tk (l.getD i Lx.tk0))[j]? = some v→(tks l)[i * 5 + j]? = some v:=by
 induction l with
 | nil=>intro i h; simp at h
 | cons t l ih =>
  intro i hi j v hv
  have hj:j < 5:=by
   by_cases c:j < 5
   ·exact c
   ·rw [List.getElem?_eq_none (by rw [zfk]; omega)] at hv; cases hv
  show (tk t ++ tks l)[i * 5 + j]? = _
  rcases i with _ | i
  ·rw [List.getElem?_append_left (by rw [zfk]; omega)]
   simpa using hv
  ·rw [List.getElem?_append_right (by rw [zfk]; omega),zfk,show (i + 1) * 5 + j - 5 = i * 5 + j by omega]
   exact ih i (by simpa using hi) j v (by simpa using hv)
theorem els_own {w:World} {B n:Nat} {e:TypeId} {v:Value} {l:List Lx.Tk} (h:w.ownsRow B e 5 v n (tks l)):l.length = n∧∃ p cap,v = .slice p l.length cap∧ElsAt tk 5 Lx.tk0 w p l:=by
 obtain ⟨h1,h2⟩:=h
 have hl:l.length = n:=by rw [zpf] at h1; omega
 refine ⟨hl,?_⟩
 rcases h2 with ⟨rfl,rfl⟩ | ⟨g,cap,cur,rfl,_,hh,_,_,hs,ht⟩
 ·exact ⟨none,0,by rw [hl],.inl (List.length_eq_zero_iff.1 hl)⟩
 ·refine ⟨_,cap,by rw [hl],.inr ⟨g,0,rfl,fun i hi j v hv=>?_⟩⟩
  have hj:j < 5:=by
   by_cases c:j < 5
   ·exact c
   ·rw [List.getElem?_eq_none (by rw [zfk]; omega)] at hv; cases hv
  have hg:=zpg l i hi j v hv
  rw [← ht,List.getElem?_take,if_pos (by omega)] at hg
  rw [cell_of_row w g _ cur e _ hh,show 0 + i * 5 + j = i * 5 + j by omega]
  simpa using hg
set_option autoImplicit false
namespace Sc
open Lx
structure Op where
 kind:Nat
 fr:Nat
 too:Nat
 name:List UInt8
 parts:List (Nat × Nat)
 starts:List Int
 fin:Int
 pos:Nat
def Op.bare (o:Op):Op:={ o with pos:=0 }
def words:List (List UInt8):=[[114,101,110,117,109,98,101,114],[114,101,110,97,109,101],[114,101,112,97,114,101,110,116],[109,101,114,103,101],[115,112,108,105,116],[114,101,99,111,100,101],[106,111,105,110],[99,97,108,101,110,100,97,114]]
def links:List (List UInt8):=[[116,111],[],[117,110,100,101,114],[105,110,116,111],[105,110,116,111],[116,111],[105,110,116,111],[117,110,116,105,108]]
def word (k:Nat):List UInt8:=words.getD k []
def link (k:Nat):List UInt8:=links.getD k []
def dec (n:Nat):List UInt8:=Lib.decDigits n
def part (p:Nat × Nat):List UInt8:=32 :: (dec p.1 ++ 32 :: dec p.2)
def partsT:List (Nat × Nat)→List UInt8
 | []=>[]
 | p :: r=>part p ++ (r.flatMap fun q=>44 :: part q)
def text (dt:Int→List UInt8) (o:Op):List UInt8 :=
 if o.kind = 1 then word 1 ++ (32 :: (dec o.fr ++ ([32,34] ++ (o.name ++ [34,59]))))
 else if o.kind = 4 then word 4 ++ (32 :: (dec o.fr ++ (32 :: (link 4 ++ (partsT o.parts ++ [59])))))
 else if o.kind = 7 then word 7 ++ ((o.starts.flatMap fun d=>32 :: dt d) ++ (32 :: (link 7 ++ (32 :: (dt o.fin ++ [59])))))
 else word o.kind ++ (32 :: (dec o.fr ++ (32 :: (link o.kind ++ (32 :: (dec o.too ++ [59]))))))
def print (dt:Int→List UInt8) (l:List Op):List UInt8:=l.flatMap fun o=>text dt o ++ [10]
def W (x:List UInt8):Tk:=⟨1,x,0,0,0⟩
def N (n:Nat):Tk:=⟨2,dec n,n,0,0⟩
def D (dt:Int→List UInt8) (d:Int):Tk:=⟨3,dt d,0,d,0⟩
def T (x:List UInt8):Tk:=⟨4,x,0,0,0⟩
def S (c:UInt8):Tk:=⟨5,[c],0,0,0⟩
structure Op.ok (dr:Int→Prop) (o:Op):Prop where
 kind:o.kind < 8
 fr:o.fr≤9999999
 too:o.too≤9999999
 name:∀ b ∈ o.name,quo b = true
 parts:∀ p ∈ o.parts,p.1≤9999999∧p.2≤9999999
 starts:∀ d ∈ o.starts,dr d
 fin:o.kind = 7→dr o.fin
section
variable (pd:List UInt8→Option Int)
def stop (m:List UInt8):Prop:=low (m.getD 0 0) = false∧dgt (m.getD 0 0) = false
def prep (ts:List Tk):Except (Nat × Nat) (List Tk)→Except (Nat × Nat) (List Tk)
 | .error e=>.error e
 | .ok l=>.ok (ts ++ l)
theorem consE_prep (t:Tk) (r:Except (Nat × Nat) (List Tk)):consE t r = prep [t] r:=by rcases r with e | l <;> rfl
theorem prep_prep (a b:List Tk) (r:Except (Nat × Nat) (List Tk)):prep a (prep b r) = prep (a ++ b) r:=by rcases r with e | l <;> simp [prep]
theorem prep_nil (r:Except (Nat × Nat) (List Tk)):prep [] r = r:=by rcases r with e | l <;> rfl
def isT (x:List UInt8) (t:Tk):Prop:=∃ c r,x = c :: r∧c ≠ 32∧c ≠ 10∧c ≠ 35∧t.pos = 0∧∀ m,stop m→one pd (x ++ m) = .ok (t,x.length)
theorem isT.split {x:List UInt8} {t:Tk} (h:isT pd x t) (m:List UInt8) (i:Nat) (hm:stop m):Lx.split pd (x ++ m) i = consE (t.put i) (Lx.split pd m (i + x.length)):=by
 obtain ⟨c,r,rfl,h1,h2,h3,hp,h⟩:=h
 have:=split_one pd c (r ++ m) i t _ h1 h2 h3 (h m hm)
 rw [List.cons_append,this,← List.cons_append,List.drop_left' rfl]
theorem u8_nat (n:Nat) (h:n < 256):(UInt8.ofNat n).toNat = n:=by simp; omega
theorem dec_dig (n:Nat):∀ b ∈ dec n,48≤b.toNat∧b.toNat≤57:=by
 unfold dec
 induction n using Nat.strongRecOn with
 | _ n ih =>
  intro b hb
  rw [Lib.decDigits] at hb
  by_cases h:n < 10
  ·rw [dif_pos h] at hb
   simp only [List.mem_singleton] at hb
   subst hb
   rw [u8_nat _ (by omega)]; omega
  ·rw [dif_neg h] at hb
   rcases List.mem_append.1 hb with hb | hb
   ·exact ih (n / 10) (by omega) b hb
   ·simp only [List.mem_singleton] at hb
    subst hb
    rw [u8_nat _ (by omega)]; omega
theorem dec_ne (n:Nat):dec n ≠ []:=by
 intro h
 have:=Lib.decDigits_length n
 have h2:=Lib.nDigits_pos n
 unfold dec at h
 rw [h] at this
 simp at this
 omega
theorem dig_app (l:List UInt8) (b:UInt8):dig (l ++ [b]) = 10 * dig l + ((b.toNat:Int) - 48):=by unfold dig; rw [List.foldl_append]; rfl
theorem zhn (n:Nat):dig (dec n) = n:=by
 unfold dec
 induction n using Nat.strongRecOn with
 | _ n ih =>
  rw [Lib.decDigits]
  by_cases c:n < 10
  ·rw [dif_pos c]
   have:dig [UInt8.ofNat (48 + n)] = 10 * 0 + (((UInt8.ofNat (48 + n)).toNat:Int) - 48):=rfl
   rw [this,u8_nat _ (by omega)]; omega
  ·rw [dif_neg c,dig_app,ih (n / 10) (by omega),u8_nat _ (by omega)]
   omega
theorem zcl (n:Nat) (h:n≤9999999):(dec n).length≤7:=by
 unfold dec
 rw [Lib.decDigits_length]
 by_cases h0:n < 10
 ·rw [Lib.nDigits_small h0]; omega
 ·have key:∀ k,n < 10 ^ (k + 1)→Lib.nDigits n≤k + 1:=fun k=>by
   induction k generalizing n with
   | zero=>intro hn; omega
   | succ k ih =>
    intro hn
    by_cases c:n < 10
    ·rw [Lib.nDigits_small c]; omega
    ·rw [Lib.nDigits_big c]
     by_cases c2:n / 10 < 10
     ·rw [Lib.nDigits_small c2]; omega
     ·have:=ih (n:=n / 10) (by omega) c2 (by rw [Nat.pow_succ] at hn; omega)
      omega
  exact key 6 (by omega)
variable (dt:Int→List UInt8) (dr:Int→Prop)
def body (o:Op):List UInt8 :=
 if o.kind = 1 then 32 :: (dec o.fr ++ ([32,34] ++ (o.name ++ [34])))
 else if o.kind = 4 then 32 :: (dec o.fr ++ (32 :: (link 4 ++ partsT o.parts)))
 else if o.kind = 7 then (o.starts.flatMap fun d=>32 :: dt d) ++ (32 :: (link 7 ++ (32 :: dt o.fin)))
 else 32 :: (dec o.fr ++ (32 :: (link o.kind ++ (32 :: dec o.too))))
end
end Sc
def spR (w':World) (B:Nat):Except (Nat × Nat) (List Lx.Tk)→Value→Prop
 | .ok ts,r=>∃ v,r = .tuple #[v,.int .i64 0,.int .i64 0]∧w'.ownsRow B 159 5 v ts.length (tks ts)
 | .error (p,e),r=>r = .tuple #[.slice none 0 0,.int .i64 (p:Int),.int .i64 (e:Int)]
theorem zjw (W:World) (B:Nat) (ty:TypeId) (v:Value) (ts:List Lx.Tk) (hown:W.ownsRow B 159 5 v ts.length (tks ts)) (g:Nat) (t:Lx.Tk) (RG:Row W g (tk t).toArray 159) (hn:ts.length≤1000000) (hB:B≤W.heap.size) :
  ∃ v' w',(Builtin.append_ #[148,148] ty #[v,.slice (some ⟨g,0,none⟩) 1 1]).run Tryz.prog W = .ok v' w'∧w'.ownsRow B 159 5 v' (ts.length + 1) (tks (ts ++ [t]))∧Below B W w':=by
 obtain ⟨i,hi,h1,h2,h3⟩:=info_tk
 obtain ⟨v',w',hr,k2,k3,k4,k5⟩:=run_append_own_at (P:=Tryz.prog) W B 148 ty 159 i (.agg (tk Lx.tk0).toArray) 5 48 Tryz.underlying148 hi h1 h2 h3 rfl (by omega) v ts.length (tks ts) hown ⟨g,0,none⟩ 1 1 (tk t) rfl (fun j u hj=>by
  rw [zbo,Nat.zero_add,RG.cell j]
  simpa using hj) (tk_all t) (by unfold maxLen; omega) (by omega) hB
 refine ⟨v',w',hr,by rw [tks_app]; simpa [tks] using k2,(Below.refl B W).grown k3 hB ?_⟩
 intro k hk
 exact (zbc hown hk).1
theorem drop_at (l:List UInt8) (i:Nat) (h:i < l.length):l.drop i = l.getD i 0 :: l.drop (i + 1):=by
 rw [List.drop_eq_getElem_cons h,List.getD_eq_getElem?_getD,List.getElem?_eq_getElem h]
 rfl
theorem zto (l:List UInt8) (i j:Nat) (h0:i≤j) (h1:j≤l.length) (h2:∀ k,i≤k→k < j→Lx.note (l.getD k 0) = true) (h3:j < l.length→Lx.note (l.getD j 0) = false):Lx.run Lx.note (l.drop i) = j - i:=by
 have g:∀ k,(l.drop i).getD k 0 = l.getD (i + k) 0:=fun k=>by rw [List.getD_eq_getElem?_getD,List.getElem?_drop,← List.getD_eq_getElem?_getD]
 refine Lx.run_at _ _ _ (by rw [List.length_drop]; omega) (fun k hk=>?_) (fun hk=>?_)
 ·rw [g]; exact h2 (i + k) (by omega) (by omega)
 ·rw [g,show i + (j - i) = j by omega]
  rw [List.length_drop] at hk
  exact h3 (by omega)
theorem zpx (ts:List Lx.Tk) (t:Lx.Tk) (r:Except (Nat × Nat) (List Lx.Tk)):Sc.prep ts (Lx.consE t r) = Sc.prep (ts ++ [t]) r:=by rw [Sc.consE_prep,Sc.prep_prep]
set_option maxHeartbeats 8000000 in
set_option maxRecDepth 100000 in
theorem zng (s:ByteArray) (l:List UInt8) (hl:l = s.data.toList) (hs:l.length≤65536) (w:World) (hM:Glb5 w) :
  Calls Tryz.prog 76 #[.string s] w fun e w'=>(∃ r,e = .returned r∧spR w' w.heap.size (Lx.split Dy.parse l 0) r)∧Below w.heap.size w w':=by
 have hsz:s.size = l.length:=by rw [hl]; exact zbb s
 have hg:∀ i (h:i < s.size),(s[i]'h).toNat = (l.getD i 0).toNat:=fun i h=>by rw [hl,zbt]
 have q0:¬ (65536:Int) < (s.size:Int):=by omega
 have hone:∀ i,i < l.length→∀ W,Glb5 W→Calls Tryz.prog 109 #[.string (s.extract i s.size)] W fun e w'=>e = .returned (exV (Lx.one Dy.parse (l.drop i)))∧Below W.heap.size W w':=fun i hi W hW =>
  one_any (s.extract i s.size) (l.drop i) (by rw [Lib.extract_data,← hl,List.take_of_length_le (by rw [List.length_drop]; omega)]) (by rw [List.length_drop]; omega) (by rw [List.length_drop]; omega) W hW
 have HS:=hdq (And.intro hsz hs)
 have HG:=hdq hg
 have HO:=hdq hone
 have HM:=hdq hM
 clear hsz hs hg hl hM hone
 go_enter Tryz.func76,Tryz.ntmps76
 go_wp2_with fail
 go_step3
 go_wp2_with fail
 go_step3
 go_wp2_with fail
 go_loopw [5,6] (fun ov iv wr=>∃ (ts:List Lx.Tk) (i:Nat),i≤l.length∧iv = .int .i64 (i:Int)∧wr.ownsRow w.heap.size 159 5 ov ts.length (tks ts)∧Sc.prep ts (Lx.split Dy.parse (l.drop i) i) = Lx.split Dy.parse l 0∧ts.length≤i∧Below w.heap.size w wr) (fun _ iv _=>l.length - (intOf iv).toNat)
 case atStart=>exact ⟨[],0,by omega,rfl,⟨rfl,.inl ⟨rfl,rfl⟩⟩,by rw [Sc.prep_nil]; rfl,by simp,Below.refl _ _⟩
 case round =>
  obtain ⟨ts,i,hi,rfl,hown,hpre,htl,BB⟩:=hrel
  have HOWN:=hdq hown
  have HP:=hdq hpre
  have HT:=hdq htl
  have HBB:=hdq BB
  clear hown hpre htl BB
  by_cases hlt:i < l.length
  ·have i1:(i:Int) < (s.size:Int):=by have:=HS.out.1; omega
   have i0:(0:Int)≤(i:Int):=by omega
   have i2:i < s.size:=by have:=HS.out.1; omega
   have gi:∀ h:i < s.size,(s[i]'h).toNat = (l.getD i 0).toNat:=fun h=>HG.out i h
   have HD:=hdq (drop_at l i hlt)
   have e1:IntKind.i64.wrap ((i:Int) + 1) = (i:Int) + 1:=by have:=HS.out; rw [IntKind.wrap_i64]; omega
   have HI:=hdq hlt
   by_cases c1:l.getD i 0 = 32∨l.getD i 0 = 10
   ·have HP2:Hid (Sc.prep ts (Lx.split Dy.parse (l.drop (i + 1)) (i + 1)) = Lx.split Dy.parse l 0):=hdq (by rw [← HP.out,HD.out,Lx.split_blank _ _ _ _ c1])
    have hb:(l.getD i 0).toNat = 32∨(l.getD i 0).toNat = 10:=by rcases c1 with h | h <;> rw [h]; exact .inl rfl; exact .inr rfl
    clear c1 hlt hi
    generalize (l.getD i 0).toNat = b at *
    rcases hb with rfl | rfl
    all_goals
     go_wp2_with fail
     exact ⟨⟨ts,i + 1,by have:=HI.out; omega,by simp,HOWN.out,HP2.out,by have:=HT.out; omega,HBB.out⟩,by have:=HI.out; simp [intOf]; omega⟩
   ·by_cases c2:l.getD i 0 = 35
    ·have hb:(l.getD i 0).toNat = 35:=by rw [c2]; rfl
     rw [hb] at gi
     have HC:=hdq c2
     clear c1 c2 hlt hi hb
     go_wp2_with fail
     obtain ⟨wo,rfl⟩:∃ wo:World,wo = wr:=⟨_,rfl⟩
     have HW:=hdq (Eq.refl wo)
     clear gi i0 i1 i2 e1
     go_loopw [6] (fun iv wr'=>∃ j:Nat,i≤j∧j≤l.length∧iv = .int .i64 (j:Int)∧(∀ k,i≤k→k < j→Lx.note (l.getD k 0) = true)∧wr' = wo) (fun iv _=>l.length - (intOf iv).toNat)
     case atStart=>exact ⟨i,by omega,by have:=HI.out; omega,rfl,fun k h1 h2=>by omega,rfl⟩
     case round =>
      obtain ⟨j,hij,hj,rfl,hn,rfl⟩:=hrel
      have HN:=hdq hn
      have HIJ:=hdq (And.intro hij hj)
      clear hn hij
      have done:(j < l.length→Lx.note (l.getD j 0) = false)→i < j∧Sc.prep ts (Lx.split Dy.parse (l.drop j) j) = Lx.split Dy.parse l 0:=fun h=>by
       have hr:=zto l i j HIJ.out.1 HIJ.out.2 HN.out h
       have hc:=HC.out
       have hlt:=HI.out
       have hd:=HD.out
       rw [hc] at hd
       have hp:0 < Lx.run Lx.note (l.drop i):=by rw [hd,Lx.run_cons,if_pos (by decide)]; omega
       refine ⟨by omega,?_⟩
       rw [← HP.out,hd,Lx.split_note,← hd,hr,List.drop_drop,show i + (j - i) = j by omega]
      have HDN:=hdq done
      clear done
      by_cases hjl:j < l.length
      ·have j1:(j:Int) < (s.size:Int):=by have:=HS.out.1; omega
       have j0:(0:Int)≤(j:Int):=by omega
       have j2:j < s.size:=by have:=HS.out.1; omega
       have gj:∀ h:j < s.size,(s[j]'h).toNat = (l.getD j 0).toNat:=fun h=>HG.out j h
       have e1:IntKind.i64.wrap ((j:Int) + 1) = (j:Int) + 1:=by have:=HS.out; rw [IntKind.wrap_i64]; omega
       have HJ:=hdq hjl
       by_cases c3:l.getD j 0 = 10
       ·have hb:(l.getD j 0).toNat = 10:=by rw [c3]; rfl
        rw [hb] at gj
        have hd:=HDN.out fun _=>by rw [c3]; rfl
        have HD2:=hdq hd
        clear c3 hb hd hjl hj
        go_wp2_with fail
        exact ⟨⟨ts,j,by have:=HJ.out; omega,rfl,HOWN.out,HD2.out.2,by have:=HT.out; have:=HD2.out.1; omega,HBB.out⟩,by have:=HD2.out.1; have:=HJ.out; simp [intOf]; omega⟩
       ·have hb:(((l.getD j 0).toNat:Int) != 10) = true:=bne_iff_ne.2 fun e=>c3 (UInt8.toNat.inj (by show _ = 10; omega))
        have hn2:Lx.note (l.getD j 0) = true:=by unfold Lx.note; rw [beq_eq_false_iff_ne.2 c3]; rfl
        have HN2:=hdq hn2
        generalize (l.getD j 0).toNat = b at *
        clear c3 hn2 hjl hj
        go_wp2_with fail
        refine ⟨⟨j + 1,by have:=HIJ.out.1; omega,HJ.out,by simp,fun k h1 h2=>?_,by first | rfl | trivial⟩,by have:=HJ.out; simp [intOf]; omega⟩
        by_cases e:k < j
        ·exact HN.out k h1 e
        ·obtain rfl:k = j:=by omega
         exact HN2.out
      ·obtain rfl:j = l.length:=by omega
       have j1:¬ (l.length:Int) < (s.size:Int):=by have:=HS.out.1; omega
       have hd:=HDN.out fun h=>absurd h hjl
       have HD2:=hdq hd
       clear hd hjl hj
       go_wp2_with fail
       exact ⟨⟨ts,l.length,by omega,rfl,HOWN.out,HD2.out.2,by have:=HT.out; have:=HD2.out.1; omega,HBB.out⟩,by have:=HD2.out.1; simp [intOf]; omega⟩
    ·have k32:(((l.getD i 0).toNat:Int) == 32) = false:=beq_eq_false_iff_ne.2 fun e=>c1 (.inl (UInt8.toNat.inj (by show _ = 32; omega)))
     have k10:(((l.getD i 0).toNat:Int) == 10) = false:=beq_eq_false_iff_ne.2 fun e=>c1 (.inr (UInt8.toNat.inj (by show _ = 10; omega)))
     have k35:(((l.getD i 0).toNat:Int) == 35) = false:=beq_eq_false_iff_ne.2 fun e=>c2 (UInt8.toNat.inj (by show _ = 35; omega))
     have h1:l.getD i 0 ≠ 32:=fun e=>c1 (.inl e)
     have h2:l.getD i 0 ≠ 10:=fun e=>c1 (.inr e)
     have hx:=HO.out i hlt
     rcases hone:Lx.one Dy.parse (l.drop i) with e | ⟨t,n⟩
     ·rw [hone] at hx
      have HX:=hdq (hx wr (HM.out.below HBB.out))
      rw [HD.out] at hone
      have hsp:=Lx.split_err Dy.parse _ _ i e h1 h2 c2 hone
      have HE:Hid (Lx.split Dy.parse l 0 = .error (i,e)):=hdq (by rw [← HP.out,HD.out,hsp]; rfl)
      have he0:((e:Int) != 0) = true:=bne_iff_ne.2 (by have:=Lx.one_err Dy.parse _ e hone; omega)
      generalize (l.getD i 0).toNat = b at *
      clear hx hone hsp c1 c2 h1 h2 hlt hi
      unfold exV at HX
      go_wp2_with fail
      refine HX.out.mono ?_
      rintro _ w1 ⟨rfl,hb1⟩
      have HB1:=hdq (zab HBB.out hb1)
      clear hb1
      go_wp2_with (first | (refine zal rfl rfl 159 rfl _ zaw ?_; intro g w2 hg R1 B1) | (refine zad rfl 159 _ _ rfl g (tk Lx.tk0).toArray rfl rfl R1 (zav _) rfl (zbi _) rfl ?_; intro w9 RZ S9))
      have HB2:=hdq (S9.below (zab HB1.out B1) (Nat.le_trans HB1.out.size hg))
      rw [Exit.noGoto_ret]
      exact bodyPost_ret (v:=.tuple #[.slice none 0 0,.int .i64 (i:Int),.int .i64 (e:Int)]) (by simp [results,Tryz.results76,go_sem]) rfl ⟨⟨_,rfl,by rw [HE.out]; rfl⟩,HB2.out⟩
     ·have hnl:=Lx.one_len Dy.parse _ (by rw [List.length_drop]; omega) t n hone
      rw [List.length_drop] at hnl
      rw [hone] at hx
      have HX:=hdq (hx wr (HM.out.below HBB.out))
      rw [HD.out] at hone
      have hsp:=Lx.split_one Dy.parse _ _ i t n h1 h2 c2 hone
      rw [← HD.out,List.drop_drop] at hsp
      have HE:Hid (Sc.prep (ts ++ [t.put i]) (Lx.split Dy.parse (l.drop (i + n)) (i + n)) = Lx.split Dy.parse l 0):=hdq (by rw [← HP.out,hsp,zpx])
      have e2:IntKind.i64.wrap ((i:Int) + (n:Int)) = (i:Int) + (n:Int):=by have:=HS.out; rw [IntKind.wrap_i64]; omega
      have HNL:=hdq hnl
      generalize (l.getD i 0).toNat = b at *
      clear hx hone hsp c1 c2 h1 h2 hlt hi hnl
      unfold exV at HX
      go_wp2_with fail
      refine HX.out.mono ?_
      rintro _ w1 ⟨rfl,hb1⟩
      have HB1:=hdq (zab HBB.out hb1)
      have HO1:=hdq (zai HOWN.out hb1)
      clear hb1
      dsimp only
      have hlt1:=fun k hk=>(zbc HO1.out hk:_≤k∧k < w1.heap.size)
      have HLT:=hdq hlt1
      have HNN:=hdq (show ts.length≤65536 by have:=HT.out; have:=HI.out; have:=HS.out; omega)
      clear hlt1
      have hAPP:∀ (g:Nat) (w2 w9:World),w1.heap.size≤g→Below w1.heap.size w1 w2→Stored w2 g w9→Row w9 g (tk t).toArray 159→∃ v6 w6,(Builtin.append_ #[148,148] 148 #[u5,.slice (some ⟨w9.heap.size,0,none⟩) 1 1]).run Tryz.prog ((w9.setCell ⟨g,4,none⟩ (.int .i64 (i:Int))).alloc (.cells #[.int .i64 (t.kind:Int),.string ⟨t.text.toArray⟩,.int .i64 t.num,.int .i32 t.day,.int .i64 (i:Int)] 159)) = .ok v6 w6∧w6.ownsRow w.heap.size 159 5 v6 (ts.length + 1) (tks (ts ++ [t.put i]))∧Below w.heap.size w w6:=fun g w2 w9 hg B1 S9 RZ=>by
       have st:=S9.trans (zaf w9 g 4 (.int .i64 (i:Int)))
       have os:=zak (zai HO1.out B1) st (fun e=>by have:=HLT.out g e; omega)
       have hB:=st.below (zab HB1.out B1) (Nat.le_trans HB1.out.size hg)
       have hsz:(w9.setCell ⟨g,4,none⟩ (.int .i64 (i:Int))).heap.size = w9.heap.size:=by simp [World.setCell]
       obtain ⟨v6,w6,hr,h1,h2⟩:=zjw ((w9.setCell ⟨g,4,none⟩ (.int .i64 (i:Int))).alloc (.cells #[.int .i64 (t.kind:Int),.string ⟨t.text.toArray⟩,.int .i64 t.num,.int .i32 t.day,.int .i64 (i:Int)] 159)) w.heap.size 148 u5 ts (zan os _) w9.heap.size (t.put i) (Row.new' _ _ _ hsz.symm) (by have:=HNN.out; omega) (by have:=hB.size; simp; omega)
       exact ⟨v6,w6,hr,h1,(zaa hB _).trans h2⟩
      have HAPP:=hdq hAPP
      clear hAPP
      go_wp2_with (first
       | (refine zal rfl rfl 159 rfl _ zaw ?_; intro g w2 hg R1 B1)
       | (refine zad rfl 159 _ _ rfl g (tk t).toArray rfl rfl R1 (zav _) rfl (zbi _) rfl ?_; intro w9 RZ S9; have f4:w9.cell? ⟨g,4,none⟩ = some (.int .i64 (t.pos:Int)):=RZ.cell 4; have z4:w9.frozen? ⟨g,4,none⟩ = false:=RZ.frozen 4; have RS:Row (w9.setCell ⟨g,4,none⟩ (.int .i64 (i:Int))) g #[.int .i64 (t.kind:Int),.string ⟨t.text.toArray⟩,.int .i64 t.num,.int .i32 t.day,.int .i64 (i:Int)] 159:=RZ.set 4 _; obtain ⟨v6,w6,hr6,ho6,hb6⟩:=HAPP.out g w2 w9 hg B1 S9 RZ; have HR6:=hdq hr6; have HO6:=hdq ho6; have HB6:=hdq hb6; clear hr6 ho6 hb6)
       | (refine zaq rfl rfl 159 (Operand.tmp 7) rfl g rfl RS _ Tryz.underlying159 rfl (zav (t.put i)) ?_)
       | (at_builtin; refine zbn rfl (zao _ _ _ _ rfl rfl rfl HR6.out) ?_))
      have hlen:(ts ++ [t.put i]).length = ts.length + 1:=by simp
      exact ⟨⟨ts ++ [t.put i],i + n,by have:=HNL.out; have:=HI.out; omega,by simp,by rw [hlen]; exact HO6.out,HE.out,by rw [hlen]; have:=HNL.out; have:=HT.out; omega,HB6.out⟩,by have:=HNL.out; have:=HI.out; simp [intOf]; omega⟩
  ·obtain rfl:i = l.length:=by omega
   have i1:¬ (l.length:Int) < (s.size:Int):=by have:=HS.out.1; omega
   have hE:Sc.prep ts (.ok [Lx.tk0.put l.length]) = Lx.split Dy.parse l 0:=by
    have:=HP.out
    rwa [List.drop_length,Lx.split_nil] at this
   have HE:=hdq hE
   have hss:(s.size:Int) = (l.length:Int):=by have:=HS.out.1; omega
   obtain ⟨v6,w6,hr6,ho6,hb6⟩:=zjw (wr.alloc (.cells #[.int .i64 0,.string ⟨#[]⟩,.int .i64 0,.int .i32 0,.int .i64 (s.size:Int)] 159)) w.heap.size 148 u5 ts (zan HOWN.out _) wr.heap.size (Lx.tk0.put l.length) (by rw [hss]; exact Row.new wr _ _) (by have:=HT.out; have:=HS.out; omega) (by have:=HBB.out.size; simp; omega)
   have HR6:=hdq hr6
   have HO6:=hdq ho6
   have HB6:=hdq ((zaa HBB.out _).trans hb6)
   clear hr6 ho6 hb6 hE hlt hi hss
   go_wp2_with (first | (at_builtin; refine zbn rfl (zao _ _ _ _ rfl rfl rfl HR6.out) ?_))
   refine bodyPost_ret (v:=.tuple #[v6,.int .i64 0,.int .i64 0]) (by simp [results,Tryz.results76,go_sem]) rfl ⟨⟨_,rfl,?_⟩,HB6.out⟩
   rw [← HE.out]
   exact ⟨_,rfl,by simpa using HO6.out⟩
def lexSplit (l:List UInt8):Except (Nat × Nat) (List Lx.Tk):=if 65536 < l.length then .error (0,2) else Lx.split Dy.parse l 0
set_option maxHeartbeats 1000000 in
theorem zig (s:ByteArray) (l:List UInt8) (hl:l = s.data.toList) (w:World) (hM:Glb5 w) :
  Calls Tryz.prog 76 #[.string s] w fun e w'=>(∃ r,e = .returned r∧spR w' w.heap.size (lexSplit l) r)∧Below w.heap.size w w':=by
 unfold lexSplit
 by_cases h:65536 < l.length
 ·rw [if_pos h]
  have hsz:s.size = l.length:=by rw [hl]; exact zbb s
  have q0:(65536:Int) < (s.size:Int):=by omega
  clear h hsz hl hM
  go_enter Tryz.func76,Tryz.ntmps76
  go_wp2_with fail
  go_step3
  go_wp2_with fail
  try rw [Exit.noGoto_ret]
  exact bodyPost_ret (v:=.tuple #[.slice none 0 0,.int .i64 0,.int .i64 2]) (by simp [results,Tryz.results76,go_sem]) rfl ⟨⟨_,rfl,rfl⟩,Below.refl _ _⟩
 ·rw [if_neg h]
  exact zng s l hl (by omega) w hM
end Go.Proofs.YtlpdfglbdijkoaaGreatDoor