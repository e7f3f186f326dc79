/-
  Own texts, several in one (Awake11, LexP, LexR, DayOf).
-/
import Derived.Test.YtlpdfglbdijkoaaGreatDoorMrg14
import Derived.Lib.IndexLaws
import Derived.Test.YtlpdfglbdijkoaaGreatDoorShelfB
import Derived.Shelf.Small.Strs
import Derived.Shelf.Strings.Search3
import Derived.Shelf.Strconv.Atoi
import Derived.Shelf.Strconv.AtoiErr
import Derived.Test.YtlpdfglbdijkoaaGreatDoorMrg9
namespace Go.Proofs.YtlpdfglbdijkoaaGreatDoor
open Go.RowKit
set_option linter.unusedVariables false
set_option linter.unusedSimpArgs false
set_option maxHeartbeats 1000000 in
theorem awake11 (w:World) (hG:Glb5 w):Calls Tryz.prog 119 #[] w fun e w'=>e = .returned (.bool true)∧Below w.heap.size w w':=by
 have HG:=hdq hG
 clear hG
 have HE:=hdq (encode11 w.heap.size (w.alloc (.cells #[.int .i32 0] 37)) (Row.new w _ _))
 have HB:=hdq (zaa (Below.refl _ w) (.cells #[.int .i32 0] 37))
 go_enter Tryz.func119,Tryz.ntmps119
 go_wp2_with fail
 refine HE.out.mono ?_
 rintro _ w1 ⟨v,rfl,hN,hb⟩
 have HB1:=hdq (zab HB.out hb)
 clear hb HE
 go_wp2_with fail
 have R7:=Row.new w1 #[.int .u8 84,.int .u8 82,.int .u8 80,.int .u8 49,.int .u8 0,.int .u8 0,.int .u8 1,.int .u8 0,.int .u8 2,.int .u8 0] 5
 have B7:=zaa (Below.refl _ w1) (.cells #[.int .u8 84,.int .u8 82,.int .u8 80,.int .u8 49,.int .u8 0,.int .u8 0,.int .u8 1,.int .u8 0,.int .u8 2,.int .u8 0] 5)
 refine (zof _ _ [84,82,80,49,0,0,1,0,2,0] _ (hN.below B7) (NsAt.of_row (l:=[84,82,80,49,0,0,1,0,2,0]) R7) (by show 10≤1000000; omega)).mono ?_
 rintro _ w3 ⟨rfl,hb3⟩
 have HB3:=hdq (zab (zab HB1.out B7) hb3)
 clear R7 B7 hN hb3
 go_wp2_with fail
 refine (awake10 w3 (HG.out.below HB3.out)).mono ?_
 rintro _ w5 ⟨rfl,hb5⟩
 go_wp2
 go_ret
 exact ⟨rfl,zab HB3.out hb5⟩
set_option autoImplicit false
namespace Lx
def run (p:UInt8→Bool) (l:List UInt8):Nat:=(l.takeWhile p).length
def inR (f t m:Nat) (b:UInt8):Bool:=(decide (f≤b.toNat) && decide (b.toNat≤t)) || decide (b.toNat = m)
theorem run_at (p:UInt8→Bool):∀ (l:List UInt8) (i:Nat),i≤l.length→(∀ j,j < i→p (l.getD j 0) = true)→(i < l.length→p (l.getD i 0) = false)→run p l = i
 | [],i,h,_,_=>by simp at h; subst h; rfl
 | b :: l,0,_,_,h2=>by
  have:=h2 (by simp)
  simp at this
  simp [run,List.takeWhile_cons,this]
 | b :: l,i + 1,h,h1,h2=>by
  have e:=h1 0 (by omega)
  simp at e
  have ih:=run_at p l i (by simpa using h) (fun j hj=>by have:=h1 (j + 1) (by omega); simpa using this) (fun hi=>by have:=h2 (by simp; omega); simpa using this)
  simp only [run,List.takeWhile_cons,e,if_true,List.length_cons] at ih ⊢
  omega
theorem run_cons (p:UInt8→Bool) (b:UInt8) (l:List UInt8):run p (b :: l) = if p b = true then run p l + 1 else 0:=by
 unfold run
 rw [List.takeWhile_cons]
 by_cases h:p b = true
 ·rw [if_pos h,if_pos h,List.length_cons]
 ·rw [if_neg h,if_neg h]; rfl
theorem run_le (p:UInt8→Bool):∀ l:List UInt8,run p l≤l.length
 | []=>Nat.le_refl _
 | b :: l=>by
  rw [run_cons,List.length_cons]
  have:=run_le p l
  split <;> omega
theorem zij (p:UInt8→Bool):∀ (l:List UInt8) (j:Nat),j < run p l→p (l.getD j 0) = true
 | [],j,h=>by simp [run] at h
 | b :: l,j,h=>by
  rw [run_cons] at h
  by_cases hb:p b = true
  ·rw [if_pos hb] at h
   rcases j with _ | j
   ·simpa using hb
   ·simpa using zij p l j (by omega)
  ·rw [if_neg hb] at h; omega
theorem mem_take_run (p:UInt8→Bool):∀ (l:List UInt8) (b:UInt8),b ∈ l.take (run p l)→p b = true
 | [],b,h=>by simp at h
 | c :: l,b,h=>by
  rw [run_cons] at h
  by_cases hc:p c = true
  ·rw [if_pos hc,List.take_succ_cons] at h
   rcases List.mem_cons.1 h with rfl | h
   ·exact hc
   ·exact mem_take_run p l b h
  ·rw [if_neg hc] at h; simp at h
structure Tk where
 kind:Nat
 text:List UInt8
 num:Int
 day:Int
 pos:Nat
def tk0:Tk:=⟨0,[],0,0,0⟩
def Tk.put (t:Tk) (i:Nat):Tk:={ t with pos:=i }
def low (b:UInt8):Bool:=inR 97 122 97 b
def dgt (b:UInt8):Bool:=inR 48 57 45 b
def quo (b:UInt8):Bool:=!(b == 34) && !(b == 10)
def note (b:UInt8):Bool:=!(b == 10)
def dig (l:List UInt8):Int:=l.foldl (fun n c=>10 * n + ((c.toNat:Int) - 48)) 0
def number (pd:List UInt8→Option Int) (l:List UInt8):Except Nat (Tk × Nat) :=
 if (45:UInt8) ∈ l then match pd l with
  | some d=>.ok (⟨3,l,0,d,0⟩,l.length)
  | none=>.error 13
 else if 7 < l.length∨(1 < l.length∧l.getD 0 0 = 48) then .error 5 else .ok (⟨2,l,dig l,0,0⟩,l.length)
def one (pd:List UInt8→Option Int) (l:List UInt8):Except Nat (Tk × Nat) :=
 let c:=l.getD 0 0
 let r:=l.drop 1
 if low c = true then .ok (⟨1,l.take (run low l),0,0,0⟩,run low l)
 else if 48≤c.toNat∧c.toNat≤57 then number pd (l.take (run dgt l))
 else if c = 34 then (if run quo r < r.length∧r.getD (run quo r) 0 = 34 then .ok (⟨4,r.take (run quo r),0,0,0⟩,run quo r + 2) else .error 3)
 else if c = 44∨c = 59 then .ok (⟨5,l.take 1,0,0,0⟩,1)
 else .error 1
theorem number_len (pd:List UInt8→Option Int) (l:List UInt8) (t:Tk) (n:Nat) (h:number pd l = .ok (t,n)):n = l.length∧t.pos = 0∧t.text = l:=by
 unfold number at h
 split at h
 ·split at h
  ·simp only [Except.ok.injEq,Prod.mk.injEq] at h; obtain ⟨rfl,rfl⟩:=h; exact ⟨rfl,rfl,rfl⟩
  ·cases h
 ·split at h
  ·cases h
  ·simp only [Except.ok.injEq,Prod.mk.injEq] at h; obtain ⟨rfl,rfl⟩:=h; exact ⟨rfl,rfl,rfl⟩
theorem one_len (pd:List UInt8→Option Int) (l:List UInt8) (hl:0 < l.length) (t:Tk) (n:Nat) (h:one pd l = .ok (t,n)):0 < n∧n≤l.length∧t.pos = 0:=by
 obtain ⟨c,r,rfl⟩:∃ c r,l = c :: r:=by rcases l with _ | ⟨c,r⟩; simp at hl; exact ⟨c,r,rfl⟩
 unfold one at h
 simp only [List.getD_cons_zero,List.drop_succ_cons,List.drop_zero] at h
 by_cases c1:low c = true
 ·rw [if_pos c1] at h
  simp only [Except.ok.injEq,Prod.mk.injEq] at h
  obtain ⟨rfl,rfl⟩:=h
  have:=run_le low (c :: r)
  refine ⟨?_,this,rfl⟩
  rw [run_cons,if_pos c1]; omega
 ·rw [if_neg c1] at h
  by_cases c2:48≤c.toNat∧c.toNat≤57
  ·rw [if_pos c2] at h
   obtain ⟨e,e2,_⟩:=number_len pd _ t n h
   have:=run_le dgt (c :: r)
   rw [List.length_take] at e
   have hd:dgt c = true:=by simp [dgt,inR,c2]
   have:0 < run dgt (c :: r):=by rw [run_cons,if_pos hd]; omega
   exact ⟨by omega,by omega,e2⟩
  ·rw [if_neg c2] at h
   by_cases c3:c = 34
   ·rw [if_pos c3] at h
    split at h
    ·rename_i hq
     simp only [Except.ok.injEq,Prod.mk.injEq] at h
     obtain ⟨rfl,rfl⟩:=h
     simp
     omega
    ·cases h
   ·rw [if_neg c3] at h
    split at h
    ·simp only [Except.ok.injEq,Prod.mk.injEq] at h
     obtain ⟨rfl,rfl⟩:=h
     simp
    ·cases h
theorem one_err (pd:List UInt8→Option Int) (l:List UInt8) (e:Nat) (h:one pd l = .error e):e ≠ 0:=by
 unfold one at h
 dsimp only at h
 split at h
 ·cases h
 ·split at h
  ·unfold number at h
   split at h
   ·split at h
    ·cases h
    ·cases h; omega
   ·split at h
    ·cases h; omega
    ·cases h
  ·split at h
   ·split at h
    ·cases h
    ·cases h; omega
   ·split at h
    ·cases h
    ·cases h; omega
def consE (t:Tk):Except (Nat × Nat) (List Tk)→Except (Nat × Nat) (List Tk)
 | .error e=>.error e
 | .ok ts=>.ok (t :: ts)
def splitF (pd:List UInt8→Option Int):Nat→List UInt8→Nat→Except (Nat × Nat) (List Tk)
 | 0,_,_=>.ok []
 | f + 1,l,i =>
  if l.length = 0 then .ok [tk0.put i]
  else if l.getD 0 0 = 32∨l.getD 0 0 = 10 then splitF pd f (l.drop 1) (i + 1)
  else if l.getD 0 0 = 35 then splitF pd f (l.drop (run note l)) (i + run note l)
  else match one pd l with
   | .error e=>.error (i,e)
   | .ok (t,n)=>consE (t.put i) (splitF pd f (l.drop n) (i + n))
theorem zcb (pd:List UInt8→Option Int):∀ (f g:Nat) (l:List UInt8) (i:Nat),l.length < f→l.length < g→splitF pd f l i = splitF pd g l i
 | 0,_,l,_,h,_=>by omega
 | _,0,l,_,_,h=>by omega
 | f + 1,g + 1,l,i,hf,hg=>by
  unfold splitF
  by_cases c0:l.length = 0
  ·rw [if_pos c0,if_pos c0]
  ·rw [if_neg c0,if_neg c0]
   by_cases c1:l.getD 0 0 = 32∨l.getD 0 0 = 10
   ·rw [if_pos c1,if_pos c1]
    exact zcb pd f g _ _ (by simp; omega) (by simp; omega)
   ·rw [if_neg c1,if_neg c1]
    by_cases c2:l.getD 0 0 = 35
    ·rw [if_pos c2,if_pos c2]
     have:0 < run note l:=by
      obtain ⟨c,r,rfl⟩:∃ c r,l = c :: r:=by rcases l with _ | ⟨c,r⟩; simp at c0; exact ⟨c,r,rfl⟩
      simp at c2
      subst c2
      rw [run_cons,if_pos (by decide)]; omega
     exact zcb pd f g _ _ (by simp; omega) (by simp; omega)
    ·rw [if_neg c2,if_neg c2]
     rcases h:one pd l with e | ⟨t,n⟩
     ·rfl
     ·have hn:=one_len pd l (by omega) t n h
      dsimp only
      rw [zcb pd f g _ _ (by simp; omega) (by simp; omega)]
def split (pd:List UInt8→Option Int) (l:List UInt8) (i:Nat):Except (Nat × Nat) (List Tk):=splitF pd (l.length + 1) l i
section
variable (pd:List UInt8→Option Int)
theorem split_nil (i:Nat):split pd [] i = .ok [tk0.put i]:=by unfold split splitF; rfl
theorem split_blank (c:UInt8) (r:List UInt8) (i:Nat) (h:c = 32∨c = 10):split pd (c :: r) i = split pd r (i + 1):=by
 show splitF pd (r.length + 1 + 1) (c :: r) i = _
 unfold splitF
 rw [if_neg (by simp),if_pos (by simpa using h)]
 rfl
theorem split_note (r:List UInt8) (i:Nat):split pd (35 :: r) i = split pd ((35 :: r).drop (run note (35 :: r))) (i + run note (35 :: r)):=by
 have h1:0 < run note (35 :: r):=by rw [run_cons,if_pos (by decide)]; omega
 have h2:=run_le note (35 :: r)
 show splitF pd (r.length + 1 + 1) (35 :: r) i = _
 unfold splitF
 rw [if_neg (by simp),if_neg (by simp),if_pos (by rfl)]
 unfold split
 refine zcb pd _ _ _ _ ?_ (by omega)
 simp only [List.length_drop,List.length_cons] at h2 ⊢
 omega
theorem split_err (c:UInt8) (r:List UInt8) (i e:Nat) (h1:c ≠ 32) (h2:c ≠ 10) (h3:c ≠ 35) (h:one pd (c :: r) = .error e):split pd (c :: r) i = .error (i,e):=by
 show splitF pd (r.length + 1 + 1) (c :: r) i = _
 unfold splitF
 rw [if_neg (by simp),if_neg (by simp [h1,h2]),if_neg (by simpa using h3),h]
theorem split_one (c:UInt8) (r:List UInt8) (i:Nat) (t:Tk) (n:Nat) (h1:c ≠ 32) (h2:c ≠ 10) (h3:c ≠ 35) (h:one pd (c :: r) = .ok (t,n)):split pd (c :: r) i = consE (t.put i) (split pd ((c :: r).drop n) (i + n)):=by
 have hn:=one_len pd (c :: r) (by simp) t n h
 show splitF pd (r.length + 1 + 1) (c :: r) i = _
 unfold splitF
 rw [if_neg (by simp),if_neg (by simp [h1,h2]),if_neg (by simpa using h3),h]
 dsimp only
 unfold split
 rw [zcb pd (r.length + 1) (((c :: r).drop n).length + 1) _ _ (by simp; omega) (by omega)]
end
theorem split_ind {motive:List UInt8→Nat→Prop} (pd:List UInt8→Option Int) (h0:∀ i,motive [] i) (hb:∀ c r i,(c = 32∨c = 10)→motive r (i + 1)→motive (c :: r) i)
  (hn:∀ r i,motive ((35 :: r).drop (run note (35 :: r))) (i + run note (35 :: r))→motive (35 :: r) i)
  (he:∀ c r i e,c ≠ 32→c ≠ 10→c ≠ 35→one pd (c :: r) = .error e→motive (c :: r) i)
  (ho:∀ c r i t n,c ≠ 32→c ≠ 10→c ≠ 35→one pd (c :: r) = .ok (t,n)→0 < n→n≤r.length + 1→motive ((c :: r).drop n) (i + n)→motive (c :: r) i) :
  ∀ (k:Nat) (l:List UInt8) (i:Nat),l.length≤k→motive l i
 | _,[],i,_=>h0 i
 | 0,c :: r,i,h=>by simp at h
 | k + 1,c :: r,i,h=>by
  by_cases c1:c = 32∨c = 10
  ·exact hb c r i c1 (split_ind pd h0 hb hn he ho k r (i + 1) (by simpa using h))
  ·by_cases c2:c = 35
   ·subst c2
    have h1:0 < run note (35 :: r):=by rw [run_cons,if_pos (by decide)]; omega
    exact hn r i (split_ind pd h0 hb hn he ho k _ _ (by simp at h ⊢; omega))
   ·rcases hh:one pd (c :: r) with e | ⟨t,n⟩
    ·exact he c r i e (fun e=>c1 (.inl e)) (fun e=>c1 (.inr e)) c2 hh
    ·have hl:=one_len pd (c :: r) (by simp) t n hh
     exact ho c r i t n (fun e=>c1 (.inl e)) (fun e=>c1 (.inr e)) c2 hh hl.1 (by simpa using hl.2.1) (split_ind pd h0 hb hn he ho k _ _ (by simp at h ⊢; omega))
end Lx
theorem zbb (s:ByteArray):s.size = s.data.toList.length:=by
 simp only [Array.length_toList]
 rfl
theorem zbt (s:ByteArray) (i:Nat) (h:i < s.size):s[i]'h = s.data.toList.getD i 0:=by
 obtain ⟨⟨l⟩⟩:=s
 have hl:i < l.length:=by simpa [zbb] using h
 simp [List.getD_eq_getElem?_getD,hl]
 rfl
theorem beqc (a b:Nat):((a:Int) == (b:Int)) = decide (a = b):=by rw [Bool.eq_iff_iff]; simp; omega
set_option maxHeartbeats 1000000 in
theorem zpq (s:ByteArray) (f t m:Nat) (hs:s.size≤1000000) (w:World) :
  Calls Tryz.prog 153 #[.string s,.int .u8 (f:Int),.int .u8 (t:Int),.int .u8 (m:Int)] w fun e w'=>e = .returned (.int .i64 (Lx.run (Lx.inR f t m) s.data.toList:Nat))∧w' = w:=by
 obtain ⟨l,hl⟩:∃ l,l = s.data.toList:=⟨_,rfl⟩
 have hsz:s.size = l.length:=by rw [hl]; exact zbb s
 have hg:∀ i (h:i < s.size),(s[i]'h).toNat = (l.getD i 0).toNat:=fun i h=>by rw [hl,zbt]
 rw [← hl]
 have HS:=hdq hsz
 have HG:=hdq hg
 clear hl hg
 go_enter Tryz.func153,Tryz.ntmps153
 go_wp2_with fail
 go_loopw [9] (fun iv wr=>∃ i:Nat,i≤l.length∧iv = .int .i64 (i:Int)∧(∀ j,j < i→Lx.inR f t m (l.getD j 0) = true)∧wr = w) (fun iv _=>l.length - (intOf iv).toNat)
 case atStart=>exact ⟨0,by omega,rfl,fun j hj=>by omega,rfl⟩
 case round =>
  obtain ⟨i,hi,rfl,hp,rfl⟩:=hrel
  have HP:=hdq hp
  clear hp
  by_cases hlt:i < l.length
  ·have h1:(i:Int) < (l.length:Int):=by omega
   have hg:∀ h:i < s.size,(s[i]'h).toNat = (l.getD i 0).toNat:=fun h=>HG.out i h
   have HB:=hdq (show Lx.inR f t m (l.getD i 0) = ((decide (f≤(l.getD i 0).toNat) && decide ((l.getD i 0).toNat≤t)) || decide ((l.getD i 0).toNat = m)) from rfl)
   generalize (l.getD i 0).toNat = b at *
   have HI:=hdq hlt
   have ew:IntKind.i64.wrap ((i:Int) + 1) = (i:Int) + 1:=by have:=HS.out; rw [IntKind.wrap_i64]; omega
   have hq:((b:Int) == (m:Int)) = decide (b = m):=beqc b m
   clear hlt hi
   go_wp2_with fail
   all_goals
    first
     | (refine ⟨⟨i + 1,by have:=HI.out; omega,by simp,fun j hj=>?_,trivial⟩,by have:=HI.out; simp [intOf]; omega⟩
        by_cases e:j < i
        ·exact HP.out j e
        ·obtain rfl:j = i:=by omega
         rw [HB.out]
         simp_all <;> omega)
     | (refine bodyPost_ret (v:=.int .i64 (i:Int)) (by simp [results,Tryz.results153,go_sem]) rfl ⟨?_,rfl⟩
        rw [Lx.run_at _ l i (by have:=HI.out; omega) HP.out (fun _=>by rw [HB.out]; simp_all <;> omega)])
  ·obtain rfl:i = l.length:=by omega
   have h1:¬ ((l.length:Int) < (l.length:Int)):=by omega
   go_wp2_with fail
   refine bodyPost_ret (v:=.int .i64 (l.length:Int)) (by simp [results,Tryz.results153,go_sem]) rfl ⟨?_,rfl⟩
   rw [Lx.run_at _ l l.length (by omega) HP.out (fun h=>by omega)]
theorem idx_any (s:ByteArray) (b:UInt8) (w:World) :
  Calls Tryz.prog 105 #[.string s,.int .u8 (b.toNat:Int)] w fun e w'=>e = .returned (.int .i64 (Lib.indexByte s.data.toList b))∧w' = w:=by
 have h:=Any.strings_IndexByte Tryz.lays137 s (b.toNat:Int) w
 rw [show ((b.toNat:Int).toNat.toUInt8) = b by simp] at h
 exact h
namespace Dy
def bef (y:Int):Nat→Int
 | 0=>0
 | k + 1=>bef y k + long y (k + 1)
theorem bef_bd (y:Int):∀ k,k≤12→0≤bef y k∧bef y k≤31 * k
 | 0,_=>by simp [bef]
 | k + 1,h=>by
  have ih:=bef_bd y k (by omega)
  have hl:=long_pos y (k + 1) (by omega) (by omega)
  unfold bef
  omega
def ofOk (y m d:Int):Bool:=decide (1≤y) && decide (y≤9999) && decide (1≤m) && decide (m≤12) && decide (1≤d) && decide (d≤long y m.toNat)
def of (y m d:Int):Option Int:=if ofOk y m d = true then some (ahead y + d - 1 + bef y (m.toNat - 1)) else none
theorem zsg (y:Int):∀ k,k≤12→bef y k + rem y (k + 1) = rem y 1
 | 0,_=>by simp [bef]
 | k + 1,h=>by
  have ih:=zsg y k (by omega)
  have hr:=rem_step y (k + 1) (by omega) (by omega)
  unfold bef
  omega
theorem zgk (y:Int):∀ k,k≤12→0≤rem y (13 - k)
 | 0,_=>by simp [rem,show rem y 13 = 0 by rfl]
 | k + 1,h=>by
  have ih:=zgk y k (by omega)
  have hr:=rem_step y (12 - k) (by omega) (by omega)
  have hl:=long_pos y (12 - k) (by omega) (by omega)
  rw [show 13 - (k + 1) = 12 - k by omega]
  rw [show 12 - k + 1 = 13 - k by omega] at hr
  omega
theorem of_year {y m d n:Int} (h:of y m d = some n):1≤y∧y≤9999∧ahead y≤n∧n < ahead (y + 1):=by
 unfold of at h
 split at h
 ·rename_i hok
  simp only [ofOk,Bool.and_eq_true,decide_eq_true_eq] at hok
  obtain ⟨⟨⟨⟨⟨h1,h2⟩,h3⟩,h4⟩,h5⟩,h6⟩:=hok
  have hb:=bef_bd y (m.toNat - 1) (by omega)
  have hr:=zsg y (m.toNat - 1) (by omega)
  have hs:=rem_step y m.toNat (by omega) (by omega)
  have hn:=zgk y (12 - m.toNat) (by omega)
  have hy:=ahead_year y
  rw [show m.toNat - 1 + 1 = m.toNat by omega] at hr
  rw [show 13 - (12 - m.toNat) = m.toNat + 1 by omega] at hn
  simp only [Option.some.injEq] at h
  omega
 ·cases h
end Dy
def ofV:Option Int→Value
 | some n=>.tuple #[.int .i32 n,.bool true]
 | none=>.tuple #[.int .i32 0,.bool false]
theorem zuu (y:Int) (h:1≤y∧y≤10000):-719162≤Dy.ahead y∧Dy.ahead y≤2932897:=by
 have mono:∀ a b:Int,a≤b→Dy.ahead a≤Dy.ahead b:=fun a b h=>by
  by_cases c:a = b
  ·rw [c]; exact Int.le_refl _
  ·exact Int.le_of_lt (Dy.ahead_lt a b (by omega))
 have e1:=mono 1 y h.1
 have e2:=mono y 10000 h.2
 rw [show Dy.ahead 1 = -719162 by decide] at e1
 rw [show Dy.ahead 10000 = 2932897 by decide] at e2
 exact ⟨e1,e2⟩
set_option maxHeartbeats 2000000 in
theorem zsa (y m d:Int) (w:World) (hM:Glb5 w) :
  Calls Tryz.prog 209 #[.int .i64 y,.int .i64 m,.int .i64 d] w fun e w'=>e = .returned (ofV (Dy.of y m d))∧w' = w:=by
 have hno:∀ h:Dy.ofOk y m d = false,Dy.of y m d = none:=fun h=>by unfold Dy.of; rw [h]; rfl
 by_cases c1:1≤y∧y≤9999∧1≤m∧m≤12∧1≤d
 ·obtain ⟨y1,y2,m1,m2,d1⟩:=c1
  obtain ⟨k,rfl⟩:∃ k:Nat,m = (k:Int):=⟨m.toNat,by omega⟩
  have HL:=hdq (zcj y k (by omega) (by omega) (by omega) w hM)
  have hlp:=Dy.long_pos y k (by omega) (by omega)
  have a1:¬ y < 1:=by omega
  have a2:¬ 9999 < y:=by omega
  have a3:¬ (k:Int) < 1:=by omega
  have a4:¬ 12 < (k:Int):=by omega
  have a5:¬ d < 1:=by omega
  have hok:Dy.ofOk y (k:Int) d = decide (d≤Dy.long y k):=by
   unfold Dy.ofOk
   rw [decide_eq_true y1,decide_eq_true y2,decide_eq_true m1,decide_eq_true m2,decide_eq_true d1]
   simp
  by_cases c2:d≤Dy.long y k
  ·have hof:Dy.of y (k:Int) d = some (Dy.ahead y + d - 1 + Dy.bef y (k - 1)):=by
    unfold Dy.of
    rw [hok,decide_eq_true c2]
    simp
   rw [hof]
   have HA:=hdq (zbl y (by omega) w)
   have hab:=zuu y (by omega)
   have HLL:=hdq fun (i:Nat) (h1:1≤i) (h2:i≤12)=>zcj y i (by omega) h1 h2 w hM
   have HBB:=hdq fun (i:Nat) (h:i≤12)=>Dy.bef_bd y i h
   have HLP:=hdq fun (i:Nat) (h1:1≤i) (h2:i≤12)=>Dy.long_pos y i h1 h2
   have HS:=hdq fun (i:Nat)=>(show Dy.bef y (i + 1) = Dy.bef y i + Dy.long y (i + 1) from rfl)
   have HK:=hdq (show 1≤k∧k≤12∧1≤d∧d≤31 by omega)
   have HAB:=hdq hab
   generalize hbk:Dy.bef y (k - 1) = bk at *
   have HBK:=hdq hbk
   have b1:¬ Dy.long y k < d:=by omega
   generalize Dy.long y k = lk at *
   generalize Dy.ahead y = ay at *
   have e1:IntKind.i64.wrap (ay + d) = ay + d:=by rw [IntKind.wrap_i64]; omega
   have e2:IntKind.i64.wrap (ay + d - 1) = ay + d - 1:=by rw [IntKind.wrap_i64]; omega
   clear hok hof hno hlp y1 y2 m1 m2 d1 c2 hab hM hbk
   go_enter Tryz.func209,Tryz.ntmps209
   go_wp2_with fail
   refine HL.out.mono ?_
   rintro _ w1 ⟨rfl,rfl⟩
   go_wp2_with fail
   refine HA.out.mono ?_
   rintro _ w1 ⟨rfl,rfl⟩
   go_wp2_with fail
   go_loopw [8,9] (fun nv iv wr=>∃ i:Nat,1≤i∧i≤k∧iv = .int .i64 (i:Int)∧nv = .int .i64 (ay + d - 1 + Dy.bef y (i - 1))∧wr = w1) (fun _ iv _=>k - (intOf iv).toNat)
   case atStart=>exact ⟨1,by omega,by have:=HK.out; omega,rfl,by simp [Dy.bef],rfl⟩
   case round =>
    obtain ⟨i,i1,i2,rfl,rfl,rfl⟩:=hrel
    by_cases hlt:i < k
    ·have hi:(i:Int) < (k:Int):=by omega
     have HC:=hdq (HLL.out i i1 (by have:=HK.out; omega))
     have hl:=HLP.out i i1 (by have:=HK.out; omega)
     have hbb:=HBB.out (i - 1) (by have:=HK.out; omega)
     have hs:=HS.out (i - 1)
     rw [show i - 1 + 1 = i by omega] at hs
     have HSS:=hdq hs
     have hbs:=HAB.out
     have hkk:=HK.out
     generalize Dy.bef y (i - 1) = bi at *
     generalize Dy.long y i = li at *
     have e3:IntKind.i64.wrap (ay + d - 1 + bi + li) = ay + d - 1 + bi + li:=by rw [IntKind.wrap_i64]; omega
     have e4:IntKind.i64.wrap ((i:Int) + 1) = (i:Int) + 1:=by rw [IntKind.wrap_i64]; omega
     have HII:=hdq (And.intro i1 hlt)
     clear hs hlt i1 i2 hl hbb hbs hkk
     go_wp2_with fail
     refine HC.out.mono ?_
     rintro _ w3 ⟨rfl,rfl⟩
     go_wp2_with fail
     have hii:=HII.out
     have hss:=HSS.out
     exact ⟨⟨i + 1,by omega,by omega,by simp,by simp; omega,by first | rfl | trivial⟩,by simp [intOf]; omega⟩
    ·obtain rfl:i = k:=by omega
     have hi:¬ (i:Int) < (i:Int):=by omega
     rw [HBK.out]
     have hbb:=HBB.out (i - 1) (by have:=HK.out; omega)
     rw [HBK.out] at hbb
     have hkk:=HK.out
     have hbs:=HAB.out
     have e5:IntKind.i32.wrap (ay + d - 1 + bk) = ay + d - 1 + bk:=by rw [IntKind.wrap_i32]; omega
     clear i1 i2 hlt hbb hkk hbs
     go_wp2_with fail
     exact bodyPost_ret (v:=.tuple #[.int .i32 (ay + d - 1 + bk),.bool true]) (by simp [results,Tryz.results209,go_sem]) rfl ⟨rfl,rfl⟩
  ·rw [hno (by rw [hok]; exact decide_eq_false c2)]
   have b1:Dy.long y k < d:=by omega
   generalize Dy.long y k = lk at *
   clear hok hno hlp y1 y2 m1 m2 d1 c2 hM
   go_enter Tryz.func209,Tryz.ntmps209
   go_wp2_with fail
   refine HL.out.mono ?_
   rintro _ w1 ⟨rfl,rfl⟩
   go_wp2_with fail
   exact bodyPost_ret (v:=.tuple #[.int .i32 0,.bool false]) (by simp [results,Tryz.results209,go_sem]) rfl ⟨rfl,rfl⟩
 ·rw [hno (by
   rw [Bool.eq_false_iff]
   intro h
   simp only [Dy.ofOk,Bool.and_eq_true,decide_eq_true_eq] at h
   exact c1 ⟨h.1.1.1.1.1,h.1.1.1.1.2,h.1.1.1.2,h.1.1.2,h.1.2⟩)]
  clear hno
  have HC:=hdq c1
  clear c1
  by_cases a1:y < 1
  ·go_enter Tryz.func209,Tryz.ntmps209
   go_wp2_with fail
   exact bodyPost_ret (v:=.tuple #[.int .i32 0,.bool false]) (by simp [results,Tryz.results209,go_sem]) rfl ⟨rfl,rfl⟩
  ·by_cases a2:9999 < y
   ·go_enter Tryz.func209,Tryz.ntmps209
    go_wp2_with fail
    exact bodyPost_ret (v:=.tuple #[.int .i32 0,.bool false]) (by simp [results,Tryz.results209,go_sem]) rfl ⟨rfl,rfl⟩
   ·by_cases a3:m < 1
    ·go_enter Tryz.func209,Tryz.ntmps209
     go_wp2_with fail
     exact bodyPost_ret (v:=.tuple #[.int .i32 0,.bool false]) (by simp [results,Tryz.results209,go_sem]) rfl ⟨rfl,rfl⟩
    ·by_cases a4:12 < m
     ·go_enter Tryz.func209,Tryz.ntmps209
      go_wp2_with fail
      exact bodyPost_ret (v:=.tuple #[.int .i32 0,.bool false]) (by simp [results,Tryz.results209,go_sem]) rfl ⟨rfl,rfl⟩
     ·have a5:d < 1:=by have:=HC.out; omega
      go_enter Tryz.func209,Tryz.ntmps209
      go_wp2_with fail
      exact bodyPost_ret (v:=.tuple #[.int .i32 0,.bool false]) (by simp [results,Tryz.results209,go_sem]) rfl ⟨rfl,rfl⟩
end Go.Proofs.YtlpdfglbdijkoaaGreatDoor