/-
  Own texts, several in one (Wide, MoneyA, Money1, Str).
-/
import Derived.Test.YtlpdfglbdijkoaaGreatDoorProg
import Derived.Test.YtlpdfglbdijkoaaGreatDoorMrg1
import Derived.Deep.QuietTactic
import Derived.BigQuiet
import Derived.Deep.RegionHeld3
import Derived.Lib.ParseIntB
import Derived.Lib.IndexMore
import Derived.Lib.ItoaNum
import Derived.Lib.IndexLaws
import Derived.Shelf.Strconv.Itoa1
import Derived.Shelf.Strconv.Itoa2
import Derived.Shelf.Strconv.ParseIntPublic10
import Derived.Shelf.Strings.Cut
import Derived.Lib.ItoaMem
import Derived.Lib.AtoiErrMem
import Derived.Lib.AppendIntMem
import Derived.Lib.ItoaWalk
import Derived.Lib.Walk
import Derived.Lib.Slices
import Derived.BigCall
import Derived.BigGuard
import Derived.CellFam
namespace Go.Proofs.YtlpdfglbdijkoaaGreatDoor
open Go.RowKit
set_option linter.unusedVariables false
set_option linter.unusedSimpArgs false
set_option maxHeartbeats 400000 in
theorem zgd (a b:Int) (w:World) :
  Calls Tryz.prog 230 #[.agg #[.int .i64 (Wd.hi a),.int .u64 (Wd.lo a)],.agg #[.int .i64 (Wd.hi b),.int .u64 (Wd.lo b)]] w fun e w'=>e = .returned (.agg #[.int .i64 (Wd.hi (a + b)),.int .u64 (Wd.lo (a + b))])∧Below w.heap.size w w':=by
 go_enter Tryz.func230,Tryz.ntmps230
 go_wp2
 ·have h:IntKind.u64.wrap (Wd.lo a + Wd.lo b) < Wd.lo a:=by assumption
  refine bodyPost_ret (v:=.agg #[.int .i64 (Wd.hi (a + b)),.int .u64 (Wd.lo (a + b))]) (by simp [results,Tryz.results230,go_sem,Wd.add_hi1 a b h,Wd.add_lo]) rfl ⟨rfl,?_⟩
  exact (((Below.refl _ _).alloc (Nat.le_refl _) _).alloc (by simp) _).alloc (by simp; omega) _
 ·have h:Wd.lo a≤IntKind.u64.wrap (Wd.lo a + Wd.lo b):=by assumption
  refine bodyPost_ret (v:=.agg #[.int .i64 (Wd.hi (a + b)),.int .u64 (Wd.lo (a + b))]) (by simp [results,Tryz.results230,go_sem,Wd.add_hi0 a b h,Wd.add_lo]) rfl ⟨rfl,?_⟩
  exact (((Below.refl _ _).alloc (Nat.le_refl _) _).alloc (by simp) _).alloc (by simp; omega) _
theorem add_at {ah al bh bl:Int} (a b:Int) (h1:ah = Wd.hi a) (h2:al = Wd.lo a) (h3:bh = Wd.hi b) (h4:bl = Wd.lo b) (w:World) :
  Calls Tryz.prog 230 #[.agg #[.int .i64 ah,.int .u64 al],.agg #[.int .i64 bh,.int .u64 bl]] w fun e w'=>e = .returned (.agg #[.int .i64 (Wd.hi (a + b)),.int .u64 (Wd.lo (a + b))])∧Below w.heap.size w w':=by
 subst h1 h2 h3 h4; exact zgd a b w
def Wd.cmp (a b:Int):Int:=if Wd.hi a = Wd.hi b∧Wd.lo a = Wd.lo b then 0 else if Wd.hi a < Wd.hi b∨(Wd.hi a = Wd.hi b∧Wd.lo a < Wd.lo b) then -1 else 1
set_option maxHeartbeats 400000 in
theorem zqq (a:Int) (w:World) :
  Calls Tryz.prog 266 #[.agg #[.int .i64 (Wd.hi a),.int .u64 (Wd.lo a)]] w fun e w'=>e = .returned (.agg #[.int .i64 (Wd.hi (-a)),.int .u64 (Wd.lo (-a))])∧Below w.heap.size w w':=by
 go_enter Tryz.func266,Tryz.ntmps266
 go_wp2_with fail
 refine (add_at (-1 - a) 1 ?_ ?_ ?_ ?_ _).mono ?_
 ·rw [Wd.not_i64 _ (Wd.hi_bd a),Wd.not_hi]
 ·rw [Wd.not_u64' _ (Wd.lo_bd a),Wd.not_lo]
 ·unfold Wd.hi wrap64; rfl
 ·unfold Wd.lo; rfl
 rintro e w1 ⟨rfl,hb⟩
 rw [show -1 - a + 1 = -a from by omega]
 obtain ⟨hc,hf⟩:=bcell hb
 have hz:w.heap.size + 1 < w1.heap.size:=by have:=hb.size; simp at this; omega
 go_wp2
 refine bodyPost_ret (v:=.agg #[.int .i64 (Wd.hi (-a)),.int .u64 (Wd.lo (-a))]) (by simp [results,Tryz.results266,go_sem,hc,hz]) rfl ⟨rfl,?_⟩
 exact (((((Below.refl _ _).alloc (Nat.le_refl _) _).alloc (by simp) _).trans (hb.mono (by simp; omega))).setCell (by simp) _).setCell (by simp) _
set_option maxHeartbeats 400000 in
theorem zqj (n:Int) (h:Wd.I64 n) (w:World) :
  Calls Tryz.prog 231 #[.int .i64 n] w fun e w'=>e = .returned (.agg #[.int .i64 (Wd.hi n),.int .u64 (Wd.lo n)])∧Below w.heap.size w w':=by
 go_enter Tryz.func231,Tryz.ntmps231
 go_wp2
 refine bodyPost_ret (v:=.agg #[.int .i64 (Wd.hi n),.int .u64 (Wd.lo n)]) (by simp [results,Tryz.results231,go_sem,Wd.of_hi n h,Wd.of_lo]) rfl ⟨rfl,?_⟩
 exact (Below.refl _ _).alloc (Nat.le_refl _) _
set_option maxHeartbeats 400000 in
theorem zts (a b:Int) (w:World) (ha:Wd.U64 a) (hb:Wd.U64 b) :
  Calls Tryz.prog 265 #[.int .u64 a,.int .u64 b] w fun e w'=>e = .returned (.agg #[.int .i64 (Wd.hi (a * b)),.int .u64 (Wd.lo (a * b))])∧Below w.heap.size w w':=by
 have hm:=Wd.mul_halves a b ha hb
 unfold Wd.mhi Wd.mlo Wd.mz Wd.my Wd.mx at hm
 have H:=hdq hm
 clear hm
 go_enter Tryz.func265,Tryz.ntmps265
 go_wp2
 obtain ⟨h1,h2⟩:=H.out
 refine bodyPost_ret (v:=.agg #[.int .i64 (Wd.hi (a * b)),.int .u64 (Wd.lo (a * b))]) (by simp [results,Tryz.results265,go_sem]; exact ⟨h1,h2⟩) rfl ⟨rfl,?_⟩
 exact (Below.refl _ _).alloc (Nat.le_refl _) _
set_option maxHeartbeats 400000 in
theorem zsx (a:Int) (w:World) (h:Wd.I64 a) (hn:a < 0) :
  Calls Tryz.prog 255 #[.int .i64 a] w fun e w'=>e = .returned (.int .u64 (-a))∧w = w':=by
 unfold Wd.I64 at h
 have e:IntKind.u64.wrap (-IntKind.u64.wrap a) = -a:=by simp only [IntKind.wrap_u64]; omega
 have H:=hdq e
 clear e
 go_enter Tryz.func255,Tryz.ntmps255
 go_wp2
 go_ret
 exact ⟨zkc (k:=.u64) H.out,rfl⟩
set_option maxHeartbeats 400000 in
theorem zsw (a:Int) (w:World) (h:Wd.I64 a) (hn:0≤a) :
  Calls Tryz.prog 255 #[.int .i64 a] w fun e w'=>e = .returned (.int .u64 a)∧w = w':=by
 unfold Wd.I64 at h
 have e:IntKind.u64.wrap a = a:=by simp only [IntKind.wrap_u64]; omega
 have H:=hdq e
 clear e
 go_enter Tryz.func255,Tryz.ntmps255
 go_wp2
 go_ret
 exact ⟨rfl,rfl⟩
def Wd.abs (a:Int):Int:=if a < 0 then -a else a
theorem zgz (a:Int) (w:World) (h:Wd.I64 a) :
  Calls Tryz.prog 255 #[.int .i64 a] w fun e w'=>e = .returned (.int .u64 (Wd.abs a))∧w = w':=by
 unfold Wd.abs
 by_cases hn:a < 0
 ·rw [if_pos hn]; exact zsx a w h hn
 ·rw [if_neg hn]; exact zsw a w h (by omega)
theorem Wd.abs_U64 (a:Int) (h:Wd.I64 a):Wd.U64 (Wd.abs a):=by unfold Wd.abs Wd.U64; unfold Wd.I64 at h; split <;> omega
theorem Wd.abs_same (a b:Int) (h:a < 0 ↔ b < 0):Wd.abs a * Wd.abs b = a * b:=by
 unfold Wd.abs; by_cases h1:a < 0
 ·rw [if_pos h1,if_pos (h.1 h1),Int.neg_mul_neg]
 ·rw [if_neg h1,if_neg (fun h2=>h1 (h.2 h2))]
theorem Wd.abs_diff (a b:Int) (h:a < 0 ↔ ¬ b < 0):-(Wd.abs a * Wd.abs b) = a * b:=by
 unfold Wd.abs; by_cases h1:a < 0
 ·rw [if_pos h1,if_neg (h.1 h1),Int.neg_mul,Int.neg_neg]
 ·rw [if_neg h1,if_pos (Classical.not_not.1 (fun h2=>h1 (h.2 h2))),Int.mul_neg,Int.neg_neg]
set_option maxHeartbeats 1600000 in
theorem zkm (a b:Int) (w:World) (ha:Wd.I64 a) (hb:Wd.I64 b) :
  Calls Tryz.prog 262 #[.int .i64 a,.int .i64 b] w fun e w'=>e = .returned (.agg #[.int .i64 (Wd.hi (a * b)),.int .u64 (Wd.lo (a * b))])∧Below w.heap.size w w':=by
 cases hd1:decide (a < 0) <;> cases hd2:decide (b < 0)
 all_goals
  have h1:=hd1
  have h2:=hd2
  simp only [decide_eq_true_eq,decide_eq_false_iff_not] at h1 h2
  go_enter Tryz.func262,Tryz.ntmps262
  go_wp2_with fail
  refine (zgz a _ ha).mono ?_
  rintro e w1 ⟨rfl,rfl⟩
  go_wp2_with fail
  refine (zgz b _ hb).mono ?_
  rintro e w1 ⟨rfl,rfl⟩
  go_wp2_with fail
  refine (zts _ _ _ (Wd.abs_U64 a ha) (Wd.abs_U64 b hb)).mono ?_
  rintro e w1 ⟨rfl,hb⟩
  have R1:=(Row.new w #[.int .i64 0,.int .u64 0] 302).below hb
  have hB1:=((Below.refl w.heap.size w).alloc (Nat.le_refl _) _).trans (hb.mono (by simp))
  have k0:w1.cell? ⟨w.heap.size,0,none⟩ = some (.int .i64 0):=R1.cell 0
  have k1:w1.cell? ⟨w.heap.size,1,none⟩ = some (.int .u64 0):=R1.cell 1
  have f0:=R1.frozen 0
  have f1:=R1.frozen 1
  have hz:=R1.lt
  clear hb
  go_wp2_with fail
 ·rw [Wd.abs_same a b (by omega)]
  exact bodyPost_ret (v:=.agg #[.int .i64 (Wd.hi (a * b)),.int .u64 (Wd.lo (a * b))]) (zau rfl _ _ (((R1.set 0 _).set 1 _).alloc _) rfl Tryz.underlying302 rfl (by kernel_rfl)) rfl ⟨rfl,zaa (zar (zar hB1 (Nat.le_refl _) _ _) (Nat.le_refl _) _ _) _⟩
 ·refine (zqq _ _).mono ?_
  rintro e w2 ⟨rfl,hb2⟩
  rw [Wd.abs_diff a b (by omega)]
  have R2:=(R1.alloc _).below hb2
  have hB2:=zab (zaa hB1 _) hb2
  have k0:w2.cell? ⟨w.heap.size,0,none⟩ = some (.int .i64 0):=R2.cell 0
  have k1:w2.cell? ⟨w.heap.size,1,none⟩ = some (.int .u64 0):=R2.cell 1
  have f0:=R2.frozen 0
  have f1:=R2.frozen 1
  clear hb2
  go_wp2
  exact bodyPost_ret (v:=.agg #[.int .i64 (Wd.hi (a * b)),.int .u64 (Wd.lo (a * b))]) (zau rfl _ _ ((R2.set 0 _).set 1 _) rfl Tryz.underlying302 rfl (by kernel_rfl)) rfl ⟨rfl,zar (zar hB2 (Nat.le_refl _) _ _) (Nat.le_refl _) _ _⟩
 ·refine (zqq _ _).mono ?_
  rintro e w2 ⟨rfl,hb2⟩
  rw [Wd.abs_diff a b (by omega)]
  have R2:=(R1.alloc _).below hb2
  have hB2:=zab (zaa hB1 _) hb2
  have k0:w2.cell? ⟨w.heap.size,0,none⟩ = some (.int .i64 0):=R2.cell 0
  have k1:w2.cell? ⟨w.heap.size,1,none⟩ = some (.int .u64 0):=R2.cell 1
  have f0:=R2.frozen 0
  have f1:=R2.frozen 1
  clear hb2
  go_wp2
  exact bodyPost_ret (v:=.agg #[.int .i64 (Wd.hi (a * b)),.int .u64 (Wd.lo (a * b))]) (zau rfl _ _ ((R2.set 0 _).set 1 _) rfl Tryz.underlying302 rfl (by kernel_rfl)) rfl ⟨rfl,zar (zar hB2 (Nat.le_refl _) _ _) (Nat.le_refl _) _ _⟩
 ·rw [Wd.abs_same a b (by omega)]
  exact bodyPost_ret (v:=.agg #[.int .i64 (Wd.hi (a * b)),.int .u64 (Wd.lo (a * b))]) (zau rfl _ _ (((R1.set 0 _).set 1 _).alloc _) rfl Tryz.underlying302 rfl (by kernel_rfl)) rfl ⟨rfl,zaa (zar (zar hB1 (Nat.le_refl _) _ _) (Nat.le_refl _) _ _) _⟩
set_option maxHeartbeats 400000 in
theorem quo_none (a d:Int) (w:World) (h:Wd.hi a < 0∨d≤0∨d≤Wd.hi a) (hd:Wd.I64 d) :
  Calls Tryz.prog 256 #[.agg #[.int .i64 (Wd.hi a),.int .u64 (Wd.lo a)],.int .i64 d] w fun e w'=>e = .returned (.tuple #[.int .u64 0,.int .u64 0])∧Below w.heap.size w w':=by
 have hh:=Wd.hi_bd a
 unfold Wd.I64 at hh hd
 by_cases h1:Wd.hi a < 0
 ·go_enter Tryz.func256,Tryz.ntmps256
  go_wp2
  go_ret2
  exact ⟨rfl,(Below.refl _ _).alloc (Nat.le_refl _) _⟩
 ·by_cases h2:d≤0
  ·have h1':0≤Wd.hi a:=by omega
   go_enter Tryz.func256,Tryz.ntmps256
   go_wp2
   go_ret2
   exact ⟨rfl,(Below.refl _ _).alloc (Nat.le_refl _) _⟩
  ·have h1':0≤Wd.hi a:=by omega
   have h2':0 < d:=by omega
   have h3:d≤Wd.hi a:=by omega
   go_enter Tryz.func256,Tryz.ntmps256
   go_wp2
   go_ret2
   exact ⟨rfl,(Below.refl _ _).alloc (Nat.le_refl _) _⟩
set_option maxHeartbeats 400000 in
theorem quo_any (a d:Nat) (w:World) (h2:0 < d) (h3:a < d * 18446744073709551616) (hd:d < 9223372036854775808) :
  Calls Tryz.prog 256 #[.agg #[.int .i64 (Wd.hi (a:Int)),.int .u64 (Wd.lo (a:Int))],.int .i64 (d:Int)] w fun e w'=>e = .returned (.tuple #[.int .u64 ((a / d:Nat):Int),.int .u64 ((a % d:Nat):Int)])∧Below w.heap.size w w':=by
 have ha:a < 170141183460469231731687303715884105728:=by omega
 have H0:a / 18446744073709551616 < d:=Nat.div_lt_of_lt_mul (by rw [Nat.mul_comm]; exact h3)
 have ehi:=Wd.hi_nat a ha
 rw [ehi,Wd.lo_nat]
 have hl:a % 18446744073709551616 < 18446744073709551616:=by omega
 generalize hh:a / 18446744073709551616 = H at *
 generalize hll:a % 18446744073709551616 = lo at *
 have HH:=hdq hh
 have HL:=hdq hll
 clear hh hll ehi
 go_enter Tryz.func256,Tryz.ntmps256
 go_wp2
 go_loop [4,5,6] (fun q r i=>∃ k:Nat,k≤64∧i = .int .i64 ((k:Int) - 1)∧q = .int .u64 ((a / 2 ^ k / d:Nat):Int)∧r = .int .u64 ((a / 2 ^ k % d:Nat):Int)) (fun _ _ i=>(intOf i + 1).toNat)
 case atStart =>
  have e1:a / 2 ^ 64 = H:=HH.out
  exact ⟨64,by omega,rfl,by rw [e1,Nat.div_eq_of_lt H0]; rfl,by rw [e1,Nat.mod_eq_of_lt H0]⟩
 case round =>
  obtain ⟨k,hk,rfl,rfl,rfl⟩:=hrel
  by_cases hlt:0 < k
  ·obtain ⟨j,rfl⟩:∃ j,k = j + 1:=⟨k - 1,by omega⟩
   have hi:(0:Int)≤((j + 1:Nat):Int) - 1:=by omega
   have hi2:((j + 1:Nat):Int) - 1 < 64:=by omega
   have hq:=Wd.quo_bd a d (j + 1) h2 h3 (by omega)
   have hr:=Nat.mod_lt (a / 2 ^ (j + 1)) h2
   generalize hQ:a / 2 ^ (j + 1) / d = Q at *
   generalize hR:a / 2 ^ (j + 1) % d = R at *
   have KQ:=hdq hQ
   have KR:=hdq hR
   clear hQ hR
   have hB:=Wd.round_bits a j R lo HL.out (by omega) (by omega)
   have hb2:a / 2 ^ j % 2 < 2:=by omega
   have KB:=hdq hB
   clear hB
   go_wp2
   ·have ht:(d:Int)≤bits .or .u64 ((R:Int) * 2) (bits .and .u64 ((lo:Int) / 2 ^ j) 1):=by assumption
    rw [KB.out] at ht
    have hs:=Wd.quo_round1 a d j Q R h2 KQ.out KR.out (by omega)
    go_round
    case rel=>exact ⟨j,by omega,by go_num,by rw [hs.1,Wd.or_one Q hq],by rw [hs.2,KB.out,Wd.wrap_diff _ _ (by omega) (by omega)]⟩
    case measure=>simp [intOf]
   ·have ht:bits .or .u64 ((R:Int) * 2) (bits .and .u64 ((lo:Int) / 2 ^ j) 1) < (d:Int):=by assumption
    rw [KB.out] at ht
    have hs:=Wd.quo_round0 a d j Q R h2 KQ.out KR.out (by omega)
    go_round
    case rel=>exact ⟨j,by omega,by go_num,by rw [hs.1]; go_num,by rw [hs.2,KB.out]⟩
    case measure=>simp [intOf]
  ·have hi:(k:Int) - 1 < 0:=by omega
   have hk0:k = 0:=by omega
   subst hk0
   go_wp2
   go_ret2
   exact ⟨by simp,(Below.refl _ _).alloc (Nat.le_refl _) _⟩
def Wd.fit (t:Int):Value:=if -9223372036854775808≤t∧t≤9223372036854775807 then .tuple #[.int .i64 t,.bool true] else .tuple #[.int .i64 0,.bool false]
namespace Mn
def two (c:Nat):List UInt8:=[UInt8.ofNat (48 + c / 10),UInt8.ofNat (48 + c % 10)]
def sign (n:Int):List UInt8:=if n < 0 then [45] else []
def text (n:Int):List UInt8:=sign n ++ (Lib.decDigits (n.natAbs / 100) ++ (46 :: two (n.natAbs % 100)))
def read (l:List UInt8):Lib.NumEnd Int→Option Int
 | .ok v=>if text v = l then some v else none
 | _=>none
def parse (l:List UInt8):Option Int :=
 if (Lib.cut l [46]).2.2 = true∧(Lib.cut l [46]).2.1.length = 2 then read l (Lib.parseIntB 64 ((Lib.cut l [46]).1 ++ (Lib.cut l [46]).2.1)) else none
def isDig (c:UInt8):Bool:=decide (48≤c.toNat∧c.toNat≤57)
def val:Nat→List UInt8→Nat
 | a,[]=>a
 | a,c :: r=>val (a * 10 + (c.toNat - 48)) r
theorem zgh (l r:List UInt8):∀ a,val a (l ++ r) = val (val a l) r:=by
 induction l with
 | nil=>intro a; rfl
 | cons c l ih=>intro a; exact ih _
theorem val_ge (l:List UInt8):∀ a,a≤val a l:=by
 induction l with
 | nil=>intro a; exact Nat.le_refl _
 | cons c l ih=>intro a; exact Nat.le_trans (Nat.le_trans (Nat.le_mul_of_pos_right a (by omega)) (Nat.le_add_right _ _)) (ih (a * 10 + (c.toNat - 48)))
theorem zdi (k:Nat) (h:k < 10):(UInt8.ofNat (48 + k)).toNat = 48 + k:=by rw [UInt8.toNat_ofNat']; omega
theorem zff (k:Nat) (h:k < 10):isDig (UInt8.ofNat (48 + k)) = true:=by unfold isDig; rw [zdi k h]; simp; omega
theorem val_dec (u:Nat):val 0 (Lib.decDigits u) = u:=by
 induction u using Nat.strongRecOn with
 | _ u ih =>
  by_cases h:u < 10
  ·rw [Lib.decDigits_one h]; show 0 * 10 + ((UInt8.ofNat (48 + u)).toNat - 48) = u; rw [zdi u h]; omega
  ·rw [Lib.decDigits,dif_neg h,zgh,ih (u / 10) (by omega)]
   show u / 10 * 10 + ((UInt8.ofNat (48 + u % 10)).toNat - 48) = u; rw [zdi _ (by omega)]; omega
theorem val_two (a c:Nat) (h:c < 100):val a (two c) = a * 100 + c:=by
 show (a * 10 + ((UInt8.ofNat (48 + c / 10)).toNat - 48)) * 10 + ((UInt8.ofNat (48 + c % 10)).toNat - 48) = a * 100 + c
 rw [zdi _ (by omega),zdi _ (by omega)]; omega
theorem zhn (u:Nat):∀ c ∈ Lib.decDigits u,isDig c = true:=by
 induction u using Nat.strongRecOn with
 | _ u ih =>
  by_cases h:u < 10
  ·rw [Lib.decDigits_one h]; intro c hc; rw [List.mem_singleton] at hc; subst hc; exact zff u h
  ·rw [Lib.decDigits,dif_neg h]; intro c hc
   rcases List.mem_append.1 hc with h1 | h1
   ·exact ih (u / 10) (by omega) c h1
   ·rw [List.mem_singleton] at h1; subst h1; exact zff _ (by omega)
theorem dig_two (c:Nat) (h:c < 100):∀ x ∈ two c,isDig x = true:=by
 intro x hx; unfold two at hx
 rcases List.mem_cons.1 hx with h1 | h1
 ·subst h1; exact zff _ (by omega)
 ·rw [List.mem_singleton] at h1; subst h1; exact zff _ (by omega)
theorem dec_ne (u:Nat):Lib.decDigits u ≠ []:=by
 by_cases h:u < 10
 ·rw [Lib.decDigits_one h]; simp
 ·rw [Lib.decDigits,dif_neg h]; simp
theorem parseM (M:Nat) (hM:M≤18446744073709551615) (l:List UInt8):∀ acc,(∀ c ∈ l,isDig c = true)→val acc l≤M→Lib.parseUintM M acc l = .ok (val acc l):=by
 induction l with
 | nil=>intro acc _ _; rfl
 | cons c l ih =>
  intro acc hd hv
  have h1:=hd c (by simp)
  unfold isDig at h1
  have h2:48≤c.toNat∧c.toNat≤57:=by simpa using h1
  have hv':val (acc * 10 + (c.toNat - 48)) l≤M:=hv
  have hg:=val_ge l (acc * 10 + (c.toNat - 48))
  unfold Lib.parseUintM
  rw [if_pos h2,if_neg (by omega),if_neg (by omega),ih _ (fun x hx=>hd x (by simp [hx])) hv']
  rfl
theorem ziu (q c:Nat) (hc:c < 100) (h:q * 100 + c≤18446744073709551615):Lib.parseUintB 64 (Lib.decDigits q ++ two c) = .ok (q * 100 + c):=by
 unfold Lib.parseUintB
 have hne:Lib.decDigits q ++ two c ≠ []:=by simp [dec_ne]
 have hv:val 0 (Lib.decDigits q ++ two c) = q * 100 + c:=by rw [zgh,val_dec,val_two _ _ hc]
 rw [if_neg hne,parseM _ (by decide) _ 0 (fun x hx=>by
  rcases List.mem_append.1 hx with h1 | h1
  ·exact zhn q x h1
  ·exact dig_two c hc x h1) (by rw [hv]; simpa using h),hv]
theorem zhd (n:Int) (h:-9223372036854775808≤n∧n≤9223372036854775807):Lib.parseIntB 64 (sign n ++ Lib.decDigits (n.natAbs / 100) ++ two (n.natAbs % 100)) = .ok n:=by
 have hp:=ziu (n.natAbs / 100) (n.natAbs % 100) (by omega) (by omega)
 have hs:n.natAbs / 100 * 100 + n.natAbs % 100 = n.natAbs:=by omega
 rw [hs] at hp
 by_cases hn:n < 0
 ·unfold sign
  rw [if_pos hn]
  unfold Lib.parseIntB
  simp only [List.cons_append,List.nil_append,List.append_assoc]
  rw [show (45:UInt8).toNat = 45 from rfl]
  simp only [or_true,if_true,hp]
  rw [if_neg (by simp),if_neg (by simp; omega)]
  congr 1; omega
 ·unfold sign
  rw [if_neg hn]
  rcases hd:Lib.decDigits (n.natAbs / 100) with _ | ⟨c,r⟩
  ·exact absurd hd (dec_ne _)
  ·have hc:=zhn (n.natAbs / 100) c (by rw [hd]; simp)
   unfold isDig at hc
   have hc2:48≤c.toNat∧c.toNat≤57:=by simpa using hc
   rw [hd] at hp
   unfold Lib.parseIntB
   simp only [List.cons_append,List.nil_append] at hp ⊢
   rw [if_neg (by omega),hp]
   have hneg:¬ c.toNat = 45:=by omega
   simp only [hneg,not_false_eq_true,true_and,false_and,if_false]
   rw [if_neg (by simp; omega)]
   congr 1; omega
theorem cut_at (a b:List UInt8) (c:UInt8) (h:∀ x ∈ a,x ≠ c):Lib.cut (a ++ c :: b) [c] = (a,b,true):=by
 have hi:Lib.index (a ++ c :: b) [c] = (a.length:Int):=by
  refine Lib.index_first (i:=a.length) (by simp) ?_ ?_
  ·simp [Lib.occAt,List.isPrefixOf]
  ·intro j hj
   unfold Lib.occAt
   rw [List.drop_append_of_le_length (by omega)]
   rcases hd:a.drop j with _ | ⟨x,r⟩
   ·have:=congrArg List.length hd; simp at this; omega
   ·have hx:x ∈ a:=List.mem_of_mem_drop (i:=j) (by rw [hd]; simp)
    have:=h x hx
    simp [List.isPrefixOf]
    exact fun e=>this e.symm
 unfold Lib.cut
 rw [hi]
 simp
theorem zum (n:Int):Lib.cut (text n) [46] = (sign n ++ Lib.decDigits (n.natAbs / 100),two (n.natAbs % 100),true):=by
 unfold text
 rw [← List.append_assoc]
 refine cut_at _ _ 46 ?_
 intro x hx
 rcases List.mem_append.1 hx with h1 | h1
 ·unfold sign at h1; split at h1
  ·simp at h1; subst h1; decide
  ·cases h1
 ·have:=zhn _ x h1
  unfold isDig at this
  intro e; subst e; simp at this
theorem parse_text (n:Int) (h:-9223372036854775808≤n∧n≤9223372036854775807):parse (text n) = some n:=by
 unfold parse
 rw [zum]
 have hp:=zhd n h
 simp only
 rw [if_pos ⟨trivial,rfl⟩,hp]
 simp [read]
theorem parseInt_bd {l:List UInt8} {v:Int} (h:Lib.parseIntB 64 l = .ok v):-9223372036854775808≤v∧v≤9223372036854775807:=by
 unfold Lib.parseIntB at h
 cases l with
 | nil=>cases h
 | cons c r =>
  simp only at h
  generalize Lib.parseUintB 64 (if c.toNat = 43∨c.toNat = 45 then r else c :: r) = p at h
  cases p with
  | ok u =>
   simp only at h
   split at h
   ·cases h
   ·split at h
    ·cases h
    ·rename_i h1 h2
     injection h with h
     by_cases hn:c.toNat = 45
     ·rw [if_pos hn] at h
      have:¬ 2 ^ (64 - 1) < u:=fun x=>h2 ⟨hn,x⟩
      omega
     ·rw [if_neg hn] at h
      have:¬ 2 ^ (64 - 1)≤u:=fun x=>h1 ⟨hn,x⟩
      omega
  | _=>cases h
theorem cut_len (l sep:List UInt8):(Lib.cut l sep).1.length≤l.length∧(Lib.cut l sep).2.1.length≤l.length:=by
 unfold Lib.cut
 split
 ·simp; omega
 ·simp
end Mn
open Go.RowKit Go.Sort
theorem zjt {w:World} (n:Nat):Below w.heap.size w (w.drewN n):=⟨rfl,rfl,rfl,Nat.le_refl _,fun _ _=>rfl⟩
theorem cut_any (s sep:ByteArray) (w:World) (hG:Glb w) (hs:s.size < 4294967281) :
  Calls Tryz.prog 263 #[.string s,.string sep] w fun e w'=>e = .returned (.tuple #[.string ⟨(Lib.cut s.data.toList sep.data.toList).1.toArray⟩,.string ⟨(Lib.cut s.data.toList sep.data.toList).2.1.toArray⟩,.bool (Lib.cut s.data.toList sep.data.toList).2.2])∧Below w.heap.size w w':=by
 obtain ⟨m,hm⟩:=hG.maxlen
 refine (Any.strings_Cut { Tryz.laysM145 with } s sep m w hs hm).mono ?_
 rintro e w' ⟨rfl,n,rfl⟩
 exact ⟨rfl,zjt n⟩
theorem zkh (s:ByteArray) (v:Int) (w:World) (hG:Glb w) (hs:s.size≤281474976710656) (h:Lib.parseIntB 64 s.data.toList = .ok v) :
  Calls Tryz.prog 264 #[.string s,.int .i64 10,.int .i64 64] w fun e w'=>e = .returned (.tuple #[.int .i64 v,.nilIface])∧Below w.heap.size w w':=by
 refine (Any.strconv_ParseInt_10_at64_ok Tryz.laysC174 s (by omega) v h w).mono ?_
 rintro e w' ⟨rfl,hw⟩
 refine ⟨rfl,?_⟩
 rcases hw with rfl | ⟨t,rfl⟩
 ·exact Below.refl _ _
 ·exact Lib.bytesWorld_below w _ t
theorem ziv (s:ByteArray) (w:World) (hG:Glb w) (hs:s.size≤281474976710656) (h:∀ v,Lib.parseIntB 64 s.data.toList ≠ .ok v) :
  Calls Tryz.prog 264 #[.string s,.int .i64 10,.int .i64 64] w fun e w'=>(∃ n t x,e = .returned (.tuple #[.int .i64 n,.iface t x]))∧Below w.heap.size w w':=by
 rcases hp:Lib.parseIntB 64 s.data.toList with v | _ | _
 ·exact absurd hp (h v)
 ·obtain ⟨t,p,hv⟩:=hG.synt
  refine (Any.strconv_ParseInt_10_at64_syntax Tryz.laysC174 s (by omega) hp _ w (zfc hv (by kernel_rfl) 0) (.inr ⟨t,p,rfl⟩)).mono ?_
  rintro e w' ⟨N,rfl,_,_,hb⟩
  exact ⟨⟨_,_,_,rfl⟩,hb⟩
 ·obtain ⟨t,p,hv⟩:=hG.rang
  refine (Any.strconv_ParseInt_10_at64_range Tryz.laysC174 s (by omega) hp _ w (zfc hv (by kernel_rfl) 0) (.inr ⟨t,p,rfl⟩)).mono ?_
  rintro e w' ⟨N,rfl,_,_,hb⟩
  exact ⟨⟨_,_,_,rfl⟩,hb⟩
set_option maxHeartbeats 6400000 in
set_option maxRecDepth 100000 in
theorem zev (u:Nat) (hu64:u < 18446744073709551616) (w:World) (hG:Glb w) :
  Calls Tryz.prog 186 #[.int .u64 (u:Int),.int .i64 10] w fun e w'=>e = .returned (.string ⟨(Lib.decDigits u).toArray⟩)∧Below w.heap.size w w':=by
 by_cases hs:u < 100
 ·have hi:(u:Int) < 100:=by omega
  have hi0:(0:Int)≤(u:Int):=by omega
  go_enter Tryz.func186,Tryz.ntmps186
  go_wp2_with (go_at_call 187; refine (Any.internal_strconv_small Tryz.lays283 u hs _).mono ?_; rintro e w' ⟨rfl,rfl⟩)
  go_ret
  exact ⟨rfl,Below.refl _ _⟩
 ·have hu1:1≤u:=by omega
  have htab:=hG.pow
  have hnd20:Lib.nDigits u≤20:=by have:=Lib.numDigits_eq u hu1 hu64; split at this <;> omega
  have hal:Tryz.prog.arrayLen 265 = 24:=by kernel_rfl
  have hel:Tryz.prog.elem 265 = 5:=by kernel_rfl
  have hsl1:∀ W,(Instr.sliceAt 265 (.pointer (some ⟨w.heap.size,0,none⟩)) none (some (.int .i64 (Lib.nDigits u:Int))) none).run Tryz.prog W = .ok (.slice (some ⟨w.heap.size,0,none⟩) (Lib.nDigits u) 24) W:=fun W=>by
   rw [run_sliceAt_array_h W 265 ⟨w.heap.size,0,none⟩ (by rw [hal,hel]; exact Tryz.underlying265) .i64 (Lib.nDigits u:Int) (by omega) (by rw [hal]; omega)]
   go_simp
  have hH0:=Lib.holds_zero0 w 265 (Lib.nDigits u) (by omega)
  have hfmt:=Any.internal_strconv_formatBase10 Tryz.lays285 w.heap.size 0 24 u (Array.replicate (Lib.nDigits u) 0) (w.alloc (.cells Lib.zeros24 265)) hH0 (by rw [Array.size_replicate]; exact Lib.lt_pow_nDigits u) hu64 (by rw [Array.size_replicate]; omega)
  rw [Array.size_replicate] at hfmt
  have HH0:=hdq hH0
  have iu:(100:Int)≤(u:Int):=by omega
  clear hH0 hal
  go_enter Tryz.func186,Tryz.ntmps186
  go_wp2_with (first | (go_at_call 188; refine (Any.internal_strconv_numDigits Tryz.laysM284 u hu1 hu64 _ (Lib.tabIs_alloc htab _)).mono ?_; rintro e w' ⟨rfl,rfl⟩))
  refine hfmt.mono ?_
  rintro e w' ⟨rfl,k,v',dk,rfl,hF⟩
  have hcv:(convert 25 9 (.slice (some ⟨w.heap.size,0,none⟩) (Lib.nDigits u) 24)).run Tryz.prog ((putRow (fun (b:UInt8)=>Value.int .u8 (b.toNat:Int)) (w.alloc (.cells Lib.zeros24 265)) w.heap.size 0 dk).drewN k) = .ok (.string ⟨(Lib.decDigits u).toArray⟩) ((putRow (fun (b:UInt8)=>Value.int .u8 (b.toNat:Int)) (w.alloc (.cells Lib.zeros24 265)) w.heap.size 0 dk).drewN k):=by
   have h:=run_convert_bytes_back (P:=Tryz.prog) ((putRow (fun (b:UInt8)=>Value.int .u8 (b.toNat:Int)) (w.alloc (.cells Lib.zeros24 265)) w.heap.size 0 dk).drewN k) 25 9 5 ⟨w.heap.size,0,none⟩ 24 (Lib.decDigits u) Tryz.underlying25 Tryz.underlying5 Tryz.underlying9 (fun j hj=>by
    rw [Lib.row_is_numeral hF j hj,Lib.add_plain,World.cell?_drewN]
    exact cell?_putRow (fun (b:UInt8)=>Value.int .u8 (b.toNat:Int)) _ w.heap.size 0 _ dk HH0.out (by rw [hF.size,Array.size_replicate]) j (by rw [hF.size]; rw [Lib.decDigits_length] at hj; exact hj))
   rw [Lib.decDigits_length] at h
   exact h
  obtain ⟨os,eo⟩:=Lib.fin_at w (.cells Lib.zeros24 265) dk k 0
  have hBl:Below w.heap.size w ((putRow (fun (b:UInt8)=>Value.int .u8 (b.toNat:Int)) (w.alloc (.cells Lib.zeros24 265)) w.heap.size 0 dk).drewN k):=by rw [eo]; exact Lib.below_grow w.heap.size w (Nat.le_refl _) k os
  clear eo HH0 hfmt htab hG
  generalize (putRow (fun (b:UInt8)=>Value.int .u8 (b.toNat:Int)) (w.alloc (.cells Lib.zeros24 265)) w.heap.size 0 dk).drewN k = w2 at *
  go_wp2
  go_ret
  exact ⟨rfl,hBl⟩
set_option maxHeartbeats 400000 in
theorem zaz (u:Nat) (hu64:u < 18446744073709551616) (w:World) (hG:Glb w) :
  Calls Tryz.prog 156 #[.int .u64 (u:Int),.int .i64 10] w fun e w'=>e = .returned (.string ⟨(Lib.decDigits u).toArray⟩)∧Below w.heap.size w w':=by
 go_enter Tryz.func156,Tryz.ntmps156
 go_wp2_with fail
 refine (zev u hu64 _ hG).mono ?_
 rintro e w' ⟨rfl,hb⟩
 go_wp2
 go_ret
 exact ⟨rfl,hb⟩
end Go.Proofs.YtlpdfglbdijkoaaGreatDoor