/-
  Own texts, several in one (Tally, Share1, ShareP, MoneyS).
-/
import Derived.Test.YtlpdfglbdijkoaaGreatDoorMrg3
import Derived.Test.YtlpdfglbdijkoaaGreatDoorMrg2
import Derived.Test.YtlpdfglbdijkoaaGreatDoorMrg4
import Derived.Test.YtlpdfglbdijkoaaGreatDoorMrg1
namespace Go.Proofs.YtlpdfglbdijkoaaGreatDoor
open Go.RowKit
set_option linter.unusedVariables false
set_option linter.unusedSimpArgs false
section
variable {α:Type} [DecidableEq α]
def tsum (s:List (α × Int)) (c:α):Int:=((s.filter fun x=>decide (x.1 = c)).map (·.2)).sum
def tG (s:List (α × Int)):α→Option Int:=fun c=>if c ∈ s.map (·.1) then some (tsum s c) else none
theorem tG_nil:(tG ([]:List (α × Int))) = fun _=>none:=by
 funext c
 simp [tG]
theorem zsq (s:List (α × Int)) (x:α × Int) (c:α):tsum (s ++ [x]) c = tsum s c + if x.1 = c then x.2 else 0:=by
 unfold tsum
 rw [List.filter_append,List.map_append,List.sum_append]
 by_cases h:x.1 = c
 ·simp [h]
 ·simp [h]
theorem zpe (s:List (α × Int)) (c:α) (h:c ∉ s.map (·.1)):tsum s c = 0:=by
 unfold tsum
 have e:(s.filter fun x=>decide (x.1 = c)) = []:=by
  rw [List.filter_eq_nil_iff]
  intro x hx
  simp only [decide_eq_true_eq]
  exact fun e=>h (List.mem_map.2 ⟨x,hx,e⟩)
 rw [e]
 rfl
theorem tG_get (s:List (α × Int)) (c:α):(tG s c).getD 0 = tsum s c:=by
 unfold tG
 by_cases h:c ∈ s.map (·.1)
 ·rw [if_pos h]; rfl
 ·rw [if_neg h,zpe s c h]; rfl
theorem tG_step (s:List (α × Int)) (x:α × Int):(fun d=>if d = x.1 then some (tsum s x.1 + x.2) else tG s d) = tG (s ++ [x]):=by
 funext d
 unfold tG
 rw [zsq]
 by_cases h:d = x.1
 ·subst h
  rw [if_pos rfl,if_pos rfl,if_pos (by simp)]
 ·have h2:¬ x.1 = d:=fun e=>h e.symm
  rw [if_neg h,if_neg h2,Int.add_zero]
  by_cases c:d ∈ s.map (·.1)
  ·rw [if_pos c,if_pos (by rw [List.map_append]; exact List.mem_append_left _ c)]
  ·rw [if_neg c,if_neg (by rw [List.map_append,List.mem_append]; rintro (e | e); exact c e; simp at e; exact h e)]
theorem zpj (s:List (α × Int)) (c:α):(∃ u,tG s c = some u) ↔ c ∈ s.map (·.1):=by
 unfold tG
 by_cases h:c ∈ s.map (·.1)
 ·rw [if_pos h]
  exact ⟨fun _=>h,fun _=>⟨_,rfl⟩⟩
 ·rw [if_neg h]
  exact ⟨fun ⟨u,hu⟩=>(by cases hu),fun hm=>absurd hm h⟩
end
theorem zge {β γ:Type} (l:List β) (f:β→γ) (d:β) (k:Nat) (h:k < l.length):(l.map f).take (k + 1) = (l.map f).take k ++ [f (l.getD k d)]:=by
 rw [← List.map_take,← List.map_take,List.take_add_one,List.getD_eq_getElem?_getD,List.getElem?_eq_getElem h,List.map_append]
 rfl
def wvalT (n:Int):Value:=.agg #[.int .i64 (Wd.hi n),.int .u64 (Wd.lo n)]
theorem zeroT (w:World):(zeroValue 302).run Tryz.prog w = .ok (wvalT 0) w:=by kernel_rfl
theorem zez {w w':World} {row:Option Nat} (h:Below w.heap.size w w'):w.grownBy w' row:=⟨h.os,h.tape,h.output,h.size,fun k hk _=>h.block k hk⟩
theorem zju {w w0 w':World} {b:Nat} (h0:Below w.heap.size w w0) (hb:w.heap.size≤b) (h:w0.grownBy w' (some b)):Below w.heap.size w w' :=
 h0.trans ⟨h.os,h.tape,h.output,h.size,fun k hk=>h.block k (Nat.lt_of_lt_of_le hk h0.size) (by intro e; injection e with e; omega)⟩
namespace Sh
set_option linter.unusedVariables false
set_option linter.unusedSimpArgs false
def bst (l:List Nat):Nat→Nat
 | 0=>0
 | k + 1=>if l.getD (bst l k) 0 < l.getD k 0 then k else bst l k
def best (l:List Nat):Nat:=bst l l.length
def hand:Nat→List Nat→List Nat→List Nat
 | 0,o,r=>o
 | k + 1,o,r=>hand k (o.set (best r) (o.getD (best r) 0 + 1)) (r.set (best r) 0)
def quos (S T:Nat) (ws:List Nat):List Nat:=ws.map fun w=>S * w / T
def rests (S T:Nat) (ws:List Nat):List Nat:=ws.map fun w=>S * w % T
def left (S:Nat) (ws:List Nat):Nat:=S - (quos S ws.sum ws).sum
def sizes (S:Nat) (ws:List Nat):List Nat:=hand (left S ws) (quos S ws.sum ws) (rests S ws.sum ws)
def allot (a:Int) (ws:List Nat):List Int:=(sizes a.natAbs ws).map fun (n:Nat)=>if a < 0 then -(n:Int) else (n:Int)
theorem getD_out (l:List Nat) (i:Nat) (h:l.length≤i):l.getD i 0 = 0:=by rw [List.getD_eq_getElem?_getD,List.getElem?_eq_none h]; rfl
theorem quo_lt (l:List Nat):∀ k,0 < l.length→k≤l.length→bst l k < l.length
 | 0,h,_=>h
 | k + 1,h,hk=>by
  unfold bst
  split
  ·omega
  ·exact quo_lt l k h (by omega)
theorem best_lt {l:List Nat} (h:0 < l.length):best l < l.length:=quo_lt l _ h (Nat.le_refl _)
theorem sum_set (l:List Nat):∀ (b x:Nat),b < l.length→(l.set b x).sum + l.getD b 0 = l.sum + x:=by
 induction l with
 | nil=>intro b x h; simp at h
 | cons y l ih =>
  intro b x h
  cases b with
  | zero=>simp; omega
  | succ b =>
   have:=ih b x (by simpa using h)
   simp only [List.set_cons_succ,List.sum_cons,List.getD_cons_succ]
   omega
theorem getD_set (l:List Nat) (b x i:Nat) (hb:b < l.length):(l.set b x).getD i 0 = if i = b then x else l.getD i 0:=by
 rw [List.getD_eq_getElem?_getD,List.getElem?_set,List.getD_eq_getElem?_getD]
 by_cases h:b = i
 ·subst h; simp [hb]
 ·rw [if_neg h,if_neg (fun e=>h e.symm)]
theorem zml:∀ (k:Nat) (o r:List Nat),0 < r.length→o.length = r.length→(hand k o r).sum = o.sum + k
 | 0,o,r,_,_=>rfl
 | k + 1,o,r,h,hl=>by
  unfold hand
  rw [zml k _ _ (by simpa using h) (by simp [hl])]
  have:=sum_set o (best r) (o.getD (best r) 0 + 1) (by rw [hl]; exact best_lt h)
  omega
theorem sums (S T:Nat) (ws:List Nat):T * (quos S T ws).sum + (rests S T ws).sum = S * ws.sum:=by
 unfold quos rests
 induction ws with
 | nil=>simp
 | cons w l ih =>
  simp only [List.map_cons,List.sum_cons,Nat.mul_add]
  have:=Nat.div_add_mod (S * w) T
  omega
theorem left_eq (S:Nat) (ws:List Nat) (hT:0 < ws.sum):left S ws * ws.sum = (rests S ws.sum ws).sum∧(quos S ws.sum ws).sum≤S:=by
 have h:=sums S ws.sum ws
 unfold left
 have hle:(quos S ws.sum ws).sum≤S:=by
  by_cases c:(quos S ws.sum ws).sum≤S
  ·exact c
  ·have:=Nat.mul_lt_mul_of_pos_left (show S < (quos S ws.sum ws).sum by omega) hT
   rw [Nat.mul_comm ws.sum S] at this
   omega
 refine ⟨?_,hle⟩
 rw [Nat.sub_mul,Nat.mul_comm _ ws.sum,Nat.mul_comm (quos S ws.sum ws).sum]
 rw [Nat.mul_comm ws.sum S]
 omega
theorem rest_lt (S T:Nat) (ws:List Nat) (hT:0 < T) (i:Nat):(rests S T ws).getD i 0 < T:=by
 unfold rests
 rw [List.getD_eq_getElem?_getD,List.getElem?_map]
 cases ws[i]? with
 | none=>exact hT
 | some w=>exact Nat.mod_lt _ hT
theorem zne (l:List Nat) (T:Nat) (h:∀ i,l.getD i 0 < T):l.sum≤l.length * T:=by
 induction l with
 | nil=>simp
 | cons y l ih =>
  have h0:=h 0
  have:=ih (fun i=>by simpa using h (i + 1))
  simp at h0
  simp only [List.sum_cons,List.length_cons,Nat.succ_mul]
  omega
theorem left_le (S:Nat) (ws:List Nat) (hT:0 < ws.sum):left S ws≤ws.length:=by
 have h:=(left_eq S ws hT).1
 have h2:=zne (rests S ws.sum ws) ws.sum (rest_lt S _ ws hT)
 have h3:(rests S ws.sum ws).length = ws.length:=by simp [rests]
 rw [h3,← h] at h2
 exact Nat.le_of_mul_le_mul_right h2 hT
theorem zpo (S:Nat) (ws:List Nat) (hT:0 < ws.sum):(sizes S ws).sum = S:=by
 unfold sizes
 have hl:0 < ws.length:=by
  cases ws with
  | nil=>simp at hT
  | cons w l=>simp
 rw [zml _ _ _ (by simpa [rests] using hl) (by simp [quos,rests])]
 have:=(left_eq S ws hT).2
 unfold left
 omega
theorem getD_le_sum (l:List Nat):∀ i,l.getD i 0≤l.sum:=by
 induction l with
 | nil=>intro i; simp
 | cons y l ih =>
  intro i
  cases i with
  | zero=>simp
  | succ i=>have:=ih i; simp only [List.getD_cons_succ,List.sum_cons]; omega
theorem sizes_le (S:Nat) (ws:List Nat) (hT:0 < ws.sum) (i:Nat):(sizes S ws).getD i 0≤S:=by
 have:=getD_le_sum (sizes S ws) i
 rwa [zpo S ws hT] at this
end Sh
set_option maxHeartbeats 1000000 in
theorem zio (S w0:Nat) (hS:S≤9223372036854775808) (hw:w0≤1000000) (he:S % 2 = 0) (w:World) :
  Calls Tryz.prog 257 #[.int .u64 (S:Int),.int .i64 (w0:Int)] w fun e w'=>e = .returned (.agg #[.int .i64 (Wd.hi ((S * w0:Nat):Int)),.int .u64 (Wd.lo ((S * w0:Nat):Int))])∧Below w.heap.size w w':=by
 have e1:bits .and .u64 (S:Int) 1 = 0:=by rw [Wd.and_one S (by omega),he]; rfl
 have ed:(S:Int) / 2 * (w0:Int) + (S:Int) / 2 * (w0:Int) = ((S * w0:Nat):Int):=by
  obtain ⟨h,rfl⟩:∃ h,S = 2 * h:=⟨S / 2,by omega⟩
  rw [show ((2 * h:Nat):Int) / 2 = (h:Int) by omega,Int.natCast_mul,Int.natCast_mul,Int.mul_assoc]
  show _ = 2 * _
  omega
 have ew:(S:Int) / 2≤4611686018427387904:=by omega
 have en:(0:Int)≤(S:Int) / 2:=by omega
 have hm:=hdq (zkm ((S:Int) / 2) (w0:Int) · (by unfold Wd.I64; omega) (by unfold Wd.I64; omega))
 have ha:=hdq (zgd ((S:Int) / 2 * (w0:Int)) ((S:Int) / 2 * (w0:Int)))
 rw [ed] at ha
 clear ed he
 generalize (S:Int) / 2 * (w0:Int) = pr at *
 generalize ((S * w0:Nat):Int) = res at *
 go_enter Tryz.func257,Tryz.ntmps257
 go_wp2_with fail
 refine (hm.out _).mono ?_
 rintro _ w1 ⟨rfl,hb1⟩
 have R1:=(Row.new w #[.int .i64 0,.int .u64 0] 302).below hb1
 have hB1:=zab ((Below.refl _ w).alloc (Nat.le_refl _) _) hb1
 clear hb1
 go_wp2_with fail
 have R1':=R1.alloc (Obj.cells #[Value.int IntKind.i64 (Wd.hi pr),Value.int IntKind.u64 (Wd.lo pr)] 302)
 have hB1':=zaa hB1 (Obj.cells #[Value.int IntKind.i64 (Wd.hi pr),Value.int IntKind.u64 (Wd.lo pr)] 302)
 refine (ha.out _).mono ?_
 rintro _ w2 ⟨rfl,hb2⟩
 have R2:=R1'.below hb2
 have hB2:=zab hB1' hb2
 clear hb2 R1' hB1' R1 hB1
 have k0:w2.cell? ⟨w.heap.size,0,none⟩ = some (.int .i64 0):=R2.cell 0
 have k1:w2.cell? ⟨w.heap.size,1,none⟩ = some (.int .u64 0):=R2.cell 1
 have f0:=R2.frozen 0
 have f1:=R2.frozen 1
 have hlt:=R2.lt
 go_wp2
 exact bodyPost_ret (v:=.agg #[.int .i64 (Wd.hi res),.int .u64 (Wd.lo res)]) (zau rfl _ _ (((R2.set 0 _).set 1 _).alloc _) rfl Tryz.underlying302 rfl (by kernel_rfl)) rfl ⟨rfl,zaa (zar (zar hB2 (Nat.le_refl _) _ _) (Nat.le_refl _) _ _) _⟩
set_option maxHeartbeats 1000000 in
theorem zke (S w0:Nat) (hS:S≤9223372036854775808) (hw:w0≤1000000) (he:S % 2 = 1) (w:World) :
  Calls Tryz.prog 257 #[.int .u64 (S:Int),.int .i64 (w0:Int)] w fun e w'=>e = .returned (.agg #[.int .i64 (Wd.hi ((S * w0:Nat):Int)),.int .u64 (Wd.lo ((S * w0:Nat):Int))])∧Below w.heap.size w w':=by
 have e1:bits .and .u64 (S:Int) 1 = 1:=by rw [Wd.and_one S (by omega),he]; rfl
 have ed:((S:Int) / 2 * (w0:Int) + (S:Int) / 2 * (w0:Int)) + (w0:Int) = ((S * w0:Nat):Int):=by
  obtain ⟨h,rfl⟩:∃ h,S = 2 * h + 1:=⟨S / 2,by omega⟩
  rw [show ((2 * h + 1:Nat):Int) / 2 = (h:Int) by omega,Int.natCast_mul,show ((2 * h + 1:Nat):Int) = 2 * (h:Int) + 1 by omega,Int.add_mul,Int.mul_assoc]
  omega
 have ew:(S:Int) / 2≤4611686018427387904:=by omega
 have en:(0:Int)≤(S:Int) / 2:=by omega
 have hm:=hdq (zkm ((S:Int) / 2) (w0:Int) · (by unfold Wd.I64; omega) (by unfold Wd.I64; omega))
 have ha:=hdq (zgd ((S:Int) / 2 * (w0:Int)) ((S:Int) / 2 * (w0:Int)))
 have hc:=hdq (zgd ((S:Int) / 2 * (w0:Int) + (S:Int) / 2 * (w0:Int)) (w0:Int))
 rw [ed] at hc
 have ho:=hdq (zqj (w0:Int) (by unfold Wd.I64; omega))
 clear ed he
 generalize (S:Int) / 2 * (w0:Int) + (S:Int) / 2 * (w0:Int) = pr2 at *
 generalize (S:Int) / 2 * (w0:Int) = pr at *
 generalize ((S * w0:Nat):Int) = res at *
 go_enter Tryz.func257,Tryz.ntmps257
 go_wp2_with fail
 refine (hm.out _).mono ?_
 rintro _ w1 ⟨rfl,hb1⟩
 have R1:=(Row.new w #[.int .i64 0,.int .u64 0] 302).below hb1
 have hB1:=zab ((Below.refl _ w).alloc (Nat.le_refl _) _) hb1
 clear hb1
 go_wp2_with fail
 have R1':=R1.alloc (Obj.cells #[Value.int IntKind.i64 (Wd.hi pr),Value.int IntKind.u64 (Wd.lo pr)] 302)
 have hB1':=zaa hB1 (Obj.cells #[Value.int IntKind.i64 (Wd.hi pr),Value.int IntKind.u64 (Wd.lo pr)] 302)
 refine (ha.out _).mono ?_
 rintro _ w2 ⟨rfl,hb2⟩
 have R2:=R1'.below hb2
 have hB2:=zab hB1' hb2
 clear hb2 R1' hB1' R1 hB1
 have k0:w2.cell? ⟨w.heap.size,0,none⟩ = some (.int .i64 0):=R2.cell 0
 have k1:w2.cell? ⟨w.heap.size,1,none⟩ = some (.int .u64 0):=R2.cell 1
 have f0:=R2.frozen 0
 have f1:=R2.frozen 1
 have hlt:=R2.lt
 go_wp2_with fail
 have R3:=R2.alloc (Obj.cells #[Value.int IntKind.i64 (Wd.hi pr2),Value.int IntKind.u64 (Wd.lo pr2)] 302)
 have R6:=Row.new w2 #[Value.int IntKind.i64 (Wd.hi pr2),Value.int IntKind.u64 (Wd.lo pr2)] 302
 have hB3:=zaa hB2 (Obj.cells #[Value.int IntKind.i64 (Wd.hi pr2),Value.int IntKind.u64 (Wd.lo pr2)] 302)
 clear k0 k1 f0 f1 R2 hB2
 generalize hw3:w2.alloc (Obj.cells #[Value.int IntKind.i64 (Wd.hi pr2),Value.int IntKind.u64 (Wd.lo pr2)] 302) = w3 at *
 generalize hg6:w2.heap.size = g6 at *
 clear hw3 hg6
 have d0:w3.drew.cell? ⟨g6,0,none⟩ = some (.int .i64 (Wd.hi pr2)):=R6.cell 0
 have d1:w3.drew.cell? ⟨g6,1,none⟩ = some (.int .u64 (Wd.lo pr2)):=R6.cell 1
 have q0:w3.drew.frozen? ⟨g6,0,none⟩ = false:=R6.frozen 0
 have q1:w3.drew.frozen? ⟨g6,1,none⟩ = false:=R6.frozen 1
 have D0:=hdq d0
 have D1:=hdq d1
 have Q0:=hdq q0
 have Q1:=hdq q1
 have c0:w3.cell? ⟨g6,0,none⟩ = some (.int .i64 (Wd.hi pr2)):=R6.cell 0
 have c1:w3.cell? ⟨g6,1,none⟩ = some (.int .u64 (Wd.lo pr2)):=R6.cell 1
 clear d0 d1 q0 q1
 go_region_with (first | (go_at_call 231; refine (ho.out _).mono ?_; rintro e wx ⟨rfl,hb⟩; have a0:=zae D0.out hb; have a1:=zae D1.out hb; have a2:=zcu D0.out Q0.out hb; have a3:=zcu D1.out Q1.out hb) | (go_at_call 230; refine (hc.out _).mono ?_; rintro e wy ⟨rfl,hb2⟩; have b0:=zae a0 hb2; have b1:=zae a1 hb2; have b2:=zcu a0 a2 hb2; have b3:=zcu a1 a3 hb2))
 all_goals
  have RR:=((((show Row w3.drew w.heap.size _ _ from R3).below hb).below hb2).other ⟨g6,0,none⟩ (by simp; omega) (.int .i64 (Wd.hi res))).other ⟨g6,1,none⟩ (by simp; omega) (.int .u64 (Wd.lo res))
  have RG:=((((show Row w3.drew g6 _ _ from R6).below hb).below hb2).set 0 (.int .i64 (Wd.hi res))).set 1 (.int .u64 (Wd.lo res))
  have BB:=zar (zar (zab (zab (show Below w.heap.size w w3.drew from hB3.drew) hb) hb2) (show w.heap.size≤g6 by omega) 0 (.int .i64 (Wd.hi res))) (show w.heap.size≤g6 by omega) 1 (.int .u64 (Wd.lo res))
  have k0:=RR.cell 0
  have k1:=RR.cell 1
  have f0:=RR.frozen 0
  have f1:=RR.frozen 1
  have l0:=RG.cell 0
  have l1:=RG.cell 1
  clear a0 a1 a2 a3 b0 b1 b2 b3 D0 D1 Q0 Q1 c0 c1 hb hb2 R3 R6 hB3
  go_wp2
  exact bodyPost_ret (v:=.agg #[.int .i64 (Wd.hi res),.int .u64 (Wd.lo res)]) (zau rfl _ _ ((RR.set 0 _).set 1 _) rfl Tryz.underlying302 rfl (by kernel_rfl)) rfl ⟨rfl,zar (zar BB (Nat.le_refl _) _ _) (Nat.le_refl _) _ _⟩
theorem zkf (S w0:Nat) (hS:S≤9223372036854775808) (hw:w0≤1000000) (w:World) :
  Calls Tryz.prog 257 #[.int .u64 (S:Int),.int .i64 (w0:Int)] w fun e w'=>e = .returned (.agg #[.int .i64 (Wd.hi ((S * w0:Nat):Int)),.int .u64 (Wd.lo ((S * w0:Nat):Int))])∧Below w.heap.size w w':=by
 rcases Nat.mod_two_eq_zero_or_one S with h | h
 ·exact zio S w0 hS hw h w
 ·exact zke S w0 hS hw h w
def Nums (w:World) (b off:Nat) (zs:List Int):Prop:=∀ i,i < zs.length→w.cell? ⟨b,off + i,none⟩ = some (.int .i64 (zs.getD i 0))
theorem Nums.below {w w':World} {b off:Nat} {zs:List Int} (h:Nums w b off zs) (hb:Below w.heap.size w w'):Nums w' b off zs:=fun i hi=>zae (h i hi) hb
end Go.Proofs.YtlpdfglbdijkoaaGreatDoor