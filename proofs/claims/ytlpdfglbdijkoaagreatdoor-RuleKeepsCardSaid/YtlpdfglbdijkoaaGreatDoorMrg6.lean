/-
  Own texts, several in one (Slice, Clone, ShareS, Share).
-/
import Derived.Test.YtlpdfglbdijkoaaGreatDoorMrg5
import Derived.ChangeSlices
import Derived.WideShapes
import Derived.OpenShut
import Derived.Below
import Derived.Test.YtlpdfglbdijkoaaGreatDoorShelf
import Derived.Maps.AppendAt
import Derived.Test.YtlpdfglbdijkoaaGreatDoorMrg3
import Derived.Test.YtlpdfglbdijkoaaGreatDoorMrg4
import Derived.Deep.OwnRows
namespace Go.Proofs.YtlpdfglbdijkoaaGreatDoor
open Go.ChangeShapes Go.WideShapes Go.RowKit
set_option linter.unusedVariables false
set_option linter.unusedSimpArgs false
def IsNums (w:World) (a:Option Addr) (len:Nat) (zs:List Int):Prop:=zs.length = len∧(∀ z ∈ zs,Wd.I64 z)∧(len = 0∨∃ b off,a = some ⟨b,off,none⟩∧Nums w b off zs)
theorem IsNums.below {w w':World} {a:Option Addr} {len:Nat} {zs:List Int} (h:IsNums w a len zs) (hb:Below w.heap.size w w'):IsNums w' a len zs:=by
 obtain ⟨h1,h2,h3⟩:=h
 refine ⟨h1,h2,?_⟩
 rcases h3 with h3 | ⟨b,off,e,h3⟩
 ·exact .inl h3
 ·exact .inr ⟨b,off,e,h3.below hb⟩
open Go.RowKit
def iv (zs:List Int):List Value:=zs.map (Value.int .i64)
theorem iv_one (zs:List Int):∀ u ∈ iv zs,u.oneCell' = true:=by
 intro u hu
 obtain ⟨z,_,rfl⟩:=List.mem_map.1 hu
 rfl
theorem iv_cell {w:World} {b off:Nat} {zs:List Int} (h:Nums w b off zs):∀ j u,(iv zs)[j]? = some u→w.cell? ⟨b,off + j,none⟩ = some u:=by
 intro j u hj
 unfold iv at hj
 rw [List.getElem?_map] at hj
 obtain ⟨z,hz,rfl⟩:=Option.map_eq_some_iff.1 hj
 have hlt:j < zs.length:=(List.getElem?_eq_some_iff.1 hz).1
 have:=h j hlt
 rwa [List.getD_eq_getElem?_getD,hz] at this
theorem ztj {w:World} {B B':Nat} {e:TypeId} {size n:Nat} {v:Value} {xs:List Value} (h:w.ownsRow B e size v n xs) (hb:B'≤B):w.ownsRow B' e size v n xs:=by
 obtain ⟨h1,h2⟩:=h
 refine ⟨h1,?_⟩
 rcases h2 with h2 | ⟨g,cap,cur,e1,e2,e3⟩
 ·exact .inl h2
 ·exact .inr ⟨g,cap,cur,e1,Nat.le_trans hb e2,e3⟩
theorem zkj {w:World} {B:Nat} {e:TypeId} {v:Value} {n:Nat} {zs:List Int} (h:w.ownsRow B e 1 v n (iv zs)) (hz:∀ z ∈ zs,Wd.I64 z):∃ a cap,v = .slice a n cap∧IsNums w a n zs:=by
 obtain ⟨h1,h2⟩:=h
 have hl:zs.length = n:=by simpa [iv] using h1
 rcases h2 with ⟨rfl,rfl⟩ | ⟨g,cap,cur,rfl,_,hh,_,_,hs,ht⟩
 ·exact ⟨none,0,rfl,hl,hz,.inl rfl⟩
 ·refine ⟨_,cap,rfl,hl,hz,.inr ⟨g,0,rfl,fun i hi=>?_⟩⟩
  rw [cell_of_row w g (0 + i) cur e _ hh,Nat.zero_add]
  have e1:(iv zs)[i]? = some (.int .i64 (zs.getD i 0)):=by
   unfold iv
   rw [List.getElem?_map,List.getElem?_eq_getElem hi]
   simp [List.getD_eq_getElem?_getD,hi]
  rw [← ht,Nat.mul_one,List.getElem?_take,if_pos (by omega)] at e1
  simpa using e1
theorem zuc:∃ i,Tryz.prog.info? 2 = some i∧i.zero = some (.int .i64 0)∧i.size = 1∧i.bytes = 8:=by
 have h:(Tryz.prog.info? 2).map (fun i=>(i.zero,i.size,i.bytes)) = some (some (.int .i64 0),1,8):=by kernel_rfl
 obtain ⟨i,hi,h⟩:=Option.map_eq_some_iff.1 h
 simp only [Prod.mk.injEq] at h
 exact ⟨i,hi,h.1,h.2.1,h.2.2⟩
section
variable {w W:World}
theorem zfw {ops:Array Oper} {rest:List Oper} {o:Oper} {a:Act} {Q:Exit→Act→World→Prop} (hgd:o.guard = none) (s x:Operand)
  (ho:o.op = .call { callee:=.builtin .append,args:=#[s,x],argTypes:=#[327,327] })
  (hB:Below w.heap.size w W) (v:Value) (n:Nat) (xs:List Int) (hs:a.eval s = v) (hown:W.ownsRow w.heap.size 2 1 v n (iv xs))
  (b off m c:Nat) (zs:List Int) (hx:a.eval x = .slice (some ⟨b,off,none⟩) m c) (hl:zs.length = m) (hz:Nums W b off zs) (hn:n + m≤1000)
  (h:∀ v' w',w'.ownsRow w.heap.size 2 1 v' (n + m) (iv (xs ++ zs))→Below w.heap.size w w'→wpList Tryz.prog ops Q rest (a.put o.dst v') w') :
  wpList Tryz.prog ops Q (o :: rest) a W:=by
 obtain ⟨i,hi,h1,h2,h3⟩:∃ i,Tryz.prog.info? 2 = some i∧i.zero = some (.int .i64 0)∧i.size = 1∧i.bytes = 8:=zuc
 have hadd:∀ j,(⟨b,off,none⟩:Addr).add j = ⟨b,off + j,none⟩:=fun j=>by simp [Addr.add]
 refine wpList_append_own_at W hgd s x 327 ho w.heap.size 2 i (.int .i64 0) 1 8 Tryz.underlying327 hi h1 h2 h3 rfl (by omega) v n (iv xs) hs hown ⟨b,off,none⟩ m c (iv zs) hx (by simp [iv,hl]) (fun j u hj=>by rw [hadd]; exact iv_cell hz j u hj) (iv_one zs) (by unfold maxLen; omega) (by omega) hB.size ?_
 intro v' w' k2 k3 k4 k5
 refine h v' w' (by unfold iv at k2 ⊢; rwa [List.map_append]) (hB.grown k3 hB.size ?_)
 intro k hk
 rcases hown.2 with ⟨rfl,_⟩ | ⟨g,cap,cur,rfl,hg,_⟩
 ·simp [Value.ownBlock] at hk
 ·simp [Value.ownBlock] at hk
  omega
end
theorem zan {w:World} {B:Nat} {e:TypeId} {size n:Nat} {v:Value} {xs:List Value} (h:w.ownsRow B e size v n xs) (o:Obj):(w.alloc o).ownsRow B e size v n xs:=by
 obtain ⟨h1,h2⟩:=h
 refine ⟨h1,?_⟩
 rcases h2 with h2 | ⟨g,cap,cur,e1,e2,e3,e4⟩
 ·exact .inl h2
 ·have hlt:g < w.heap.size:=by
   by_cases c:g < w.heap.size
   ·exact c
   ·rw [Array.getElem?_eq_none (by omega)] at e3; cases e3
  refine .inr ⟨g,cap,cur,e1,e2,?_,e4⟩
  show (w.heap.push o)[g]? = _
  rw [Array.getElem?_push,if_neg (by omega)]
  exact e3
def NumsU (w:World) (b off:Nat) (zs:List Nat):Prop:=∀ i,i < zs.length→w.cell? ⟨b,off + i,none⟩ = some (.int .u64 ((zs.getD i 0:Nat):Int))
theorem NumsU.below {w w':World} {b off:Nat} {zs:List Nat} (h:NumsU w b off zs) (hb:Below w.heap.size w w'):NumsU w' b off zs:=fun i hi=>zae (h i hi) hb
theorem zej {α β:Type} (f:α→β) (zs:List α) (k:Nat) (d:α) (h:k < zs.length):(zs.take (k + 1)).map f = (zs.take k).map f ++ [f (zs.getD k d)]:=by
 rw [List.take_succ_eq_append_getElem h,List.map_append]; simp [List.getD_eq_getElem?_getD,h]
theorem zly {w:World} {b:Nat} {z:Int} (h:w.cell? ⟨b,0,none⟩ = some (.int .i64 z)):Nums w b 0 [z]:=by
 intro i hi
 have:i = 0:=by simp at hi; omega
 subst this
 simpa using h
def sgn (m:Bool) (n:Nat):Int:=if m then -(n:Int) else (n:Int)
set_option maxHeartbeats 2000000 in
theorem znh (m:Bool) (b n cap:Nat) (os:List Nat) (w:World) (hn:NumsU w b 0 os) (hl:os.length = n) (hn8:n≤8) (ho:∀ i,os.getD i 0≤9223372036854775807∨(m = true∧os.getD i 0≤9223372036854775808)) :
  Calls Tryz.prog 258 #[.slice (some ⟨b,0,none⟩) n cap,.bool m] w fun e w'=>∃ v,e = .returned v∧w'.ownsRow w.heap.size 2 1 v n (iv (os.map (sgn m)))∧Below w.heap.size w w':=by
 have HN:=hdq hn
 have HO:=hdq ho
 clear hn ho
 cases m
 all_goals
  go_enter Tryz.func258,Tryz.ntmps258
  go_wp2_with fail
 ·go_loopw [5,10] (fun v i wr=>∃ k:Nat,k≤n∧i = .int .i64 k∧wr.ownsRow w.heap.size 2 1 v k (iv ((os.take k).map (sgn false)))∧Below w.heap.size w wr) (fun _ i _=>n - (intOf i).toNat)
  case atStart=>exact ⟨0,by omega,rfl,⟨rfl,.inl ⟨rfl,rfl⟩⟩,Below.refl _ _⟩
  case round =>
   obtain ⟨k,hk,rfl,hown,BB⟩:=hrel
   by_cases hlt:k < n
   ·have hkz:k < os.length:=by omega
    have hc:wr.cell? ⟨b,k,none⟩ = some (.int .u64 ((os.getD k 0:Nat):Int)):=by
     have h1:=HN.out k hkz
     rw [Nat.zero_add] at h1
     exact (BB.cell (block_lt_of_cell h1)).trans h1
    have hz:os.getD k 0≤9223372036854775807:=by
     rcases HO.out k with h | ⟨h,h'⟩ <;> first | omega | cases h
    have HM:=hdq (zej (sgn false) os k 0 hkz)
    generalize os.getD k 0 = z at *
    have e1:IntKind.i64.wrap (z:Int) = sgn false z:=by unfold sgn; rw [IntKind.wrap_i64]; simp; omega
    go_wp2_with (at_builtin; refine zfw rfl _ _ rfl (zaa BB _) _ k _ rfl (zan hown _) wr.heap.size 0 1 1 [sgn false z] rfl rfl (zly ((Row.new wr _ _).cell 0)) (by omega) ?_; intro v2 w2 hown2 hB2)
    go_roundw
    case rel=>exact ⟨k + 1,by omega,by go_num,by rw [HM.out]; exact hown2,hB2⟩
    case measure=>simp [intOf]; omega
   ·have hk0:k = n:=by omega
    subst hk0
    rw [List.take_of_length_le (by omega)] at hown
    go_wp2
    go_ret
    exact ⟨_,rfl,hown,BB⟩
 ·go_loopw [5,10] (fun v i wr=>∃ k:Nat,k≤n∧i = .int .i64 k∧wr.ownsRow w.heap.size 2 1 v k (iv ((os.take k).map (sgn true)))∧Below w.heap.size w wr) (fun _ i _=>n - (intOf i).toNat)
  case atStart=>exact ⟨0,by omega,rfl,⟨rfl,.inl ⟨rfl,rfl⟩⟩,Below.refl _ _⟩
  case round =>
   obtain ⟨k,hk,rfl,hown,BB⟩:=hrel
   by_cases hlt:k < n
   ·have hkz:k < os.length:=by omega
    have hc:wr.cell? ⟨b,k,none⟩ = some (.int .u64 ((os.getD k 0:Nat):Int)):=by
     have h1:=HN.out k hkz
     rw [Nat.zero_add] at h1
     exact (BB.cell (block_lt_of_cell h1)).trans h1
    have hz:os.getD k 0≤9223372036854775808:=by
     rcases HO.out k with h | ⟨h,h'⟩ <;> first | omega | cases h
    have HM:=hdq (zej (sgn true) os k 0 hkz)
    generalize os.getD k 0 = z at *
    have e1:IntKind.i64.wrap (IntKind.u64.wrap (-(z:Int))) = sgn true z:=by unfold sgn; rw [IntKind.wrap_i64,IntKind.wrap_u64]; simp; omega
    go_wp2_with (at_builtin; refine zfw rfl _ _ rfl (zaa BB _) _ k _ rfl (zan hown _) wr.heap.size 0 1 1 [sgn true z] rfl rfl (zly ((Row.new wr _ _).cell 0)) (by omega) ?_; intro v2 w2 hown2 hB2)
    go_roundw
    case rel=>exact ⟨k + 1,by omega,by go_num,by rw [HM.out]; exact hown2,hB2⟩
    case measure=>simp [intOf]; omega
   ·have hk0:k = n:=by omega
    subst hk0
    rw [List.take_of_length_le (by omega)] at hown
    go_wp2
    go_ret
    exact ⟨_,rfl,hown,BB⟩
def uvec (l:List Nat):Array Value:=(l.map fun (n:Nat)=>Value.int .u64 (n:Int)).toArray
theorem zsp (l:List Nat) (i:Nat) (h:i < l.length):(uvec l)[i]? = some (.int .u64 ((l.getD i 0:Nat):Int)):=by
 unfold uvec
 simp [List.getElem?_map,List.getElem?_eq_getElem h,List.getD_eq_getElem?_getD]
theorem zso (l:List Nat) (i x:Nat):(uvec l).setIfInBounds i (.int .u64 (x:Int)) = uvec (l.set i x):=by
 unfold uvec
 simp [List.map_set]
theorem zhz (n:Nat):madeCells #[Value.int .u64 0] n = uvec (List.replicate n 0):=by
 unfold uvec madeCells
 apply Array.ext'
 simp [Nat.mod_one,List.map_const']
def part (k:Nat) (l:List Nat):List Nat:=l.take k ++ List.replicate (l.length - k) 0
theorem zit (l:List Nat):part 0 l = List.replicate l.length 0:=by simp [part]
theorem zlw (l:List Nat):part l.length l = l:=by simp [part]
theorem zlu (l:List Nat) (k:Nat) (h:k < l.length):(part k l).set k (l.getD k 0) = part (k + 1) l:=by
 unfold part
 rw [List.set_append_right _ _ (by simp; omega),List.length_take,Nat.min_eq_left (by omega),Nat.sub_self,List.take_succ_eq_append_getElem h]
 obtain ⟨m,hm⟩:∃ m,l.length - k = m + 1:=⟨l.length - k - 1,by omega⟩
 rw [hm,show l.length - (k + 1) = m by omega]
 rw [List.replicate_succ,List.set_cons_zero,List.append_assoc,List.singleton_append,List.getD_eq_getElem?_getD,List.getElem?_eq_getElem h]
 rfl
theorem zlv (l:List Nat) (k:Nat) (h:k≤l.length):(part k l).length = l.length:=by simp [part]; omega
theorem Row.uset {W:World} {g k x:Nat} {l:List Nat} {t:TypeId} (R:Row W g (uvec l) t):Row (W.setCell ⟨g,k,none⟩ (.int .u64 (x:Int))) g (uvec (l.set k x)) t:=zso l k x ▸ R.set k _
theorem Row.ucell {W:World} {g k:Nat} {l:List Nat} {t:TypeId} (R:Row W g (uvec l) t) (h:k < l.length):W.cell? ⟨g,k,none⟩ = some (.int .u64 ((l.getD k 0:Nat):Int)):=(R.cell k).trans (zsp l k h)
def ni (l:List Nat):List Int:=l.map fun (n:Nat)=>(n:Int)
theorem zqm (l:List Nat) (k:Nat):(ni l).getD k 0 = ((l.getD k 0:Nat):Int):=by
 unfold ni
 rw [List.getD_eq_getElem?_getD,List.getElem?_map,List.getD_eq_getElem?_getD]
 cases l[k]? <;> rfl
theorem zec (l:List Nat) (k:Nat) (h:k < l.length):(l.take (k + 1)).sum = (l.take k).sum + l.getD k 0:=by
 rw [List.take_succ_eq_append_getElem h,List.sum_append]; simp [List.getD_eq_getElem?_getD,h]
theorem zfl (l:List Nat) (k:Nat):(l.take k).sum≤l.sum:=by
 have:=congrArg List.sum (List.take_append_drop k l)
 rw [List.sum_append] at this
 omega
theorem zpk (l:List Nat) (B:Nat) (h:∀ i,l.getD i 0≤B):l.sum≤l.length * B:=by
 induction l with
 | nil=>simp
 | cons y l ih =>
  have h0:=h 0
  have:=ih (fun i=>by simpa using h (i + 1))
  simp at h0
  simp only [List.sum_cons,List.length_cons,Nat.succ_mul]
  omega
def MakeI (w0:World) (b off n cap:Nat) (L:Nat→Bool) (V:Nat→Value) (w:World):Prop :=
 Below w0.heap.size w0 w∧(L 0 = true→V 0 = .slice (some ⟨b,off,none⟩) n cap)∧(L 1 = true→V 1 = .int .i64 (n:Int))∧(L 3 = true→V 3 = .slice (some ⟨b,off,none⟩) n cap)∧(L 4 = true→V 4 = .int .i64 (n:Int)) ∧
 (L 2 = true→∃ g,V 2 = .slice (some ⟨g,0,none⟩) n n∧w0.heap.size≤g∧Row w g (uvec (List.replicate n 0)) 210) ∧
 (L 5 = true→∃ g,V 5 = .slice (some ⟨g,0,none⟩) n n∧w0.heap.size≤g∧Row w g (uvec (List.replicate n 0)) 210) ∧
 (L 2 = true→L 5 = true→V 2 ≠ V 5)∧(L 6 = true→V 6 = V 2∧L 2 = true)∧(L 7 = true→V 7 = V 5∧L 5 = true)
set_option maxHeartbeats 4000000 in
theorem zus (a:Int) (b off n cap:Nat) (ws:List Nat) (w:World) (hI:Wd.I64 a) (hn:Nums w b off (ni ws)) (hl:ws.length = n) (h1:1≤n) (h8:n≤8) (hw:∀ i,i < n→1≤ws.getD i 0∧ws.getD i 0≤1000000) :
  Calls Tryz.prog 252 #[.int .i64 a,.slice (some ⟨b,off,none⟩) n cap] w fun e w'=>∃ v,e = .returned (.tuple #[v,.int .i64 0])∧w'.ownsRow w.heap.size 2 1 v n (iv (Sh.allot a ws))∧Below w.heap.size w w':=by
 have HN:=hdq hn
 have HW:=hdq hw
 clear hn hw
 have hq1:((n:Int) < 1) = False:=by simp; omega
 have hq2:((8:Int) < (n:Int)) = False:=by simp; omega
 go_enter Tryz.func252,Tryz.ntmps252
 go_wp2_with fail
 go_loopw [6,28] (fun t i wr=>∃ k:Nat,k≤n∧i = .int .i64 k∧t = .int .i64 (((ws.take k).sum:Nat):Int)∧w = wr) (fun _ i _=>n - (intOf i).toNat)
 case atStart=>exact ⟨0,by omega,rfl,rfl,rfl⟩
 case round =>
  obtain ⟨k,hk,rfl,rfl,rfl⟩:=hrel
  have hts:ws.sum≤8000000:=by
   have hb:=zpk ws 1000000 (fun i=>by
    by_cases c:i < n
    ·exact (HW.out i c).2
    ·rw [Sh.getD_out _ _ (by omega)]; omega)
   omega
  have htk:=zfl ws k
  by_cases hlt:k < n
  ·have hkl:k < (ni ws).length:=by simp [ni]; omega
   have hc:=HN.out k hkl
   rw [zqm] at hc
   have hz:=HW.out k hlt
   have HS:=hdq (zec ws k (by omega))
   generalize ws.getD k 0 = z at *
   go_wp2
   go_roundw
   case rel=>exact ⟨k + 1,by omega,by go_num,by rw [HS.out]; go_num,trivial⟩
   case measure=>simp [intOf]; omega
  ·have hk0:n = k:=by omega
   subst hk0
   rw [List.take_of_length_le (by omega)] at *
   go_wp2_with fail
   refine (zed a hI _).mono ?_
   rintro _ w1 ⟨rfl,rfl⟩
   go_wp2_with fail
   clear htk hlt hk
   generalize hS:a.natAbs = S at *
   refine zcn (n:=8) (by kernel_rfl) (MakeI w b off n cap) (by kernel_rfl) ?_ ?_ rfl ?_
   ·refine ⟨zat (Below.refl _ _),?_⟩
    refine ⟨?_,?_,?_,?_,?_,?_,?_,?_,?_⟩ <;> (intro h; simp at h)
   ·intro i o ho
    rcases i with _ | _ | _ | _ | _ | _ | _ | _ | i
    all_goals (first | (simp at ho; done) | (obtain rfl:=Option.some.inj ho))
    all_goals (rintro L V wx hL hpre ⟨J1,K0,K1,K3,K4,M2,M5,D,A6,A7⟩ a hdef hev hold)
    ·have ex:a.tmps[1]?.getD undef = .slice (some ⟨b,off,none⟩) n cap:=by
      have h:=hold 1 (by simp) (by intro j hj; rcases j with _ | _ | _ | _ | _ | _ | _ | _ | j <;> simp [dstAt])
      simpa [go_sem] using h
     exact zbf ho rfl (v:=.slice (some ⟨b,off,none⟩) n cap) (by go_simp) ⟨J1,by simp [updV],by simpa [Upd,updV] using K1,by simpa [Upd,updV] using K3,by simpa [Upd,updV] using K4,by simpa [Upd,updV] using M2,by simpa [Upd,updV] using M5,by simpa [Upd,updV] using D,by simpa [Upd,updV] using A6,by simpa [Upd,updV] using A7⟩
    ·have p0:=hpre 0 (by decide)
     have e0:a.tmps[44]?.getD undef = .slice (some ⟨b,off,none⟩) n cap:=by simpa [go_sem] using (hev 0 44 p0 rfl (by simp) (by simp)).trans (K0 p0)
     exact zbf ho rfl (v:=.int .i64 (n:Int)) (by go_simp) ⟨J1,by simpa [Upd,updV] using K0,by simp [updV],by simpa [Upd,updV] using K3,by simpa [Upd,updV] using K4,by simpa [Upd,updV] using M2,by simpa [Upd,updV] using M5,by simpa [Upd,updV] using D,by simpa [Upd,updV] using A6,by simpa [Upd,updV] using A7⟩
    ·have p1:=hpre 1 (by decide)
     have e1:a.tmps[45]?.getD undef = .int .i64 (n:Int):=by simpa [go_sem] using (hev 1 45 p1 rfl (by simp) (by simp)).trans (K1 p1)
     have hrun:=run_make_row' (P:=Tryz.prog) 332 210 (.int .u64 0) 8 Tryz.underlying332 (by kernel_rfl) rfl .i64 .i64 n (by omega) (by omega) wx
     rw [zhz] at hrun
     exact zbf ho rfl (v:=.slice (some ⟨wx.heap.size,0,none⟩) n n) (by go_simp) ⟨zaa J1 _,by simpa [Upd,updV] using K0,by simpa [Upd,updV] using K1,by simpa [Upd,updV] using K3,by simpa [Upd,updV] using K4,fun _=>⟨wx.heap.size,by simp [updV],J1.size,Row.new wx _ _⟩,fun h=>by
      obtain ⟨g,e,h1,R⟩:=M5 (by simpa [Upd] using h)
      exact ⟨g,by simpa [updV] using e,h1,R.alloc _⟩,fun h2 h5=>by
      obtain ⟨g,e,h1,R⟩:=M5 (by simpa [Upd] using h5)
      have:=R.lt
      simp [updV,e] <;> omega,fun h=>by
      exact absurd (A6 (by simpa [Upd] using h)).2 (by rw [hL]; simp),by simpa [Upd,updV] using A7⟩
    ·have ex:a.tmps[1]?.getD undef = .slice (some ⟨b,off,none⟩) n cap:=by
      have h:=hold 1 (by simp) (by intro j hj; rcases j with _ | _ | _ | _ | _ | _ | _ | _ | j <;> simp [dstAt])
      simpa [go_sem] using h
     exact zbf ho rfl (v:=.slice (some ⟨b,off,none⟩) n cap) (by go_simp) ⟨J1,by simpa [Upd,updV] using K0,by simpa [Upd,updV] using K1,by simp [updV],by simpa [Upd,updV] using K4,by simpa [Upd,updV] using M2,by simpa [Upd,updV] using M5,by simpa [Upd,updV] using D,by simpa [Upd,updV] using A6,by simpa [Upd,updV] using A7⟩
    ·have p3:=hpre 3 (by decide)
     have e3:a.tmps[47]?.getD undef = .slice (some ⟨b,off,none⟩) n cap:=by simpa [go_sem] using (hev 3 47 p3 rfl (by simp) (by simp)).trans (K3 p3)
     exact zbf ho rfl (v:=.int .i64 (n:Int)) (by go_simp) ⟨J1,by simpa [Upd,updV] using K0,by simpa [Upd,updV] using K1,by simpa [Upd,updV] using K3,by simp [updV],by simpa [Upd,updV] using M2,by simpa [Upd,updV] using M5,by simpa [Upd,updV] using D,by simpa [Upd,updV] using A6,by simpa [Upd,updV] using A7⟩
    ·have p4:=hpre 4 (by decide)
     have e4:a.tmps[48]?.getD undef = .int .i64 (n:Int):=by simpa [go_sem] using (hev 4 48 p4 rfl (by simp) (by simp)).trans (K4 p4)
     have hrun:=run_make_row' (P:=Tryz.prog) 332 210 (.int .u64 0) 8 Tryz.underlying332 (by kernel_rfl) rfl .i64 .i64 n (by omega) (by omega) wx
     rw [zhz] at hrun
     exact zbf ho rfl (v:=.slice (some ⟨wx.heap.size,0,none⟩) n n) (by go_simp) ⟨zaa J1 _,by simpa [Upd,updV] using K0,by simpa [Upd,updV] using K1,by simpa [Upd,updV] using K3,by simpa [Upd,updV] using K4,fun h=>by
      obtain ⟨g,e,h1,R⟩:=M2 (by simpa [Upd] using h)
      exact ⟨g,by simpa [updV] using e,h1,R.alloc _⟩,fun _=>⟨wx.heap.size,by simp [updV],J1.size,Row.new wx _ _⟩,fun h2 h5=>by
      obtain ⟨g,e,h1,R⟩:=M2 (by simpa [Upd] using h2)
      have:=R.lt
      simp [updV,e] <;> omega,by simpa [Upd,updV] using A6,fun h=>by
      exact absurd (A7 (by simpa [Upd] using h)).2 (by rw [hL]; simp)⟩
    ·have p2:=hpre 2 (by decide)
     have e2:a.tmps[46]?.getD undef = V 2:=by simpa [go_sem] using (hev 2 46 p2 rfl (by simp) (by simp)).trans rfl
     exact zbf ho rfl (v:=V 2) (by go_simp) ⟨J1,by simpa [Upd,updV] using K0,by simpa [Upd,updV] using K1,by simpa [Upd,updV] using K3,by simpa [Upd,updV] using K4,by simpa [Upd,updV] using M2,by simpa [Upd,updV] using M5,by simpa [Upd,updV] using D,by simp [Upd,updV,p2],by simpa [Upd,updV] using A7⟩
    ·have p5:=hpre 5 (by decide)
     have e5:a.tmps[49]?.getD undef = V 5:=by simpa [go_sem] using (hev 5 49 p5 rfl (by simp) (by simp)).trans rfl
     exact zbf ho rfl (v:=V 5) (by go_simp) ⟨J1,by simpa [Upd,updV] using K0,by simpa [Upd,updV] using K1,by simpa [Upd,updV] using K3,by simpa [Upd,updV] using K4,by simpa [Upd,updV] using M2,by simpa [Upd,updV] using M5,by simpa [Upd,updV] using D,by simpa [Upd,updV] using A6,by simp [Upd,updV,p5]⟩
   ·rintro V wx ⟨J1,K0,K1,K3,K4,M2,M5,D,A6,A7⟩
    obtain ⟨g1,e2,hg1,R1⟩:=M2 rfl
    obtain ⟨g2,e5,hg2,R2⟩:=M5 rfl
    have hne:g1 ≠ g2:=fun h=>D rfl rfl (by rw [e2,e5,h])
    have hne2:g2 ≠ g1:=fun h=>hne h.symm
    have v0:=K0 rfl
    have v1:=K1 rfl
    have v3:=K3 rfl
    have v4:=K4 rfl
    have v6:=(A6 rfl).1.trans e2
    have v7:=(A7 rfl).1.trans e5
    simp only [fill,if_true,dstAt,v0,v1,v3,v4,e2,e5,v6,v7]
    simp [Act.put]
    clear K0 K1 K3 K4 M2 M5 D A6 A7 v0 v1 v3 v4 v6 v7 e2 e5 V
    have hT:0 < ws.sum:=by
     have h:=HW.out 0 (by omega)
     have:=Sh.getD_le_sum ws 0
     omega
    have FQ:Hid (∀ k,(Sh.quos S ws.sum ws).getD k 0 = S * ws.getD k 0 / ws.sum):=hdq fun i=>by
     unfold Sh.quos
     rw [List.getD_eq_getElem?_getD,List.getElem?_map,List.getD_eq_getElem?_getD]
     cases ws[i]? <;> simp
    have FR:Hid (∀ k,(Sh.rests S ws.sum ws).getD k 0 = S * ws.getD k 0 % ws.sum):=hdq fun i=>by
     unfold Sh.rests
     rw [List.getD_eq_getElem?_getD,List.getElem?_map,List.getD_eq_getElem?_getD]
     cases ws[i]? <;> simp
    have HQl:(Sh.quos S ws.sum ws).length = n:=by simp [Sh.quos,hl]
    have HRl:(Sh.rests S ws.sum ws).length = n:=by simp [Sh.rests,hl]
    have hsum:=(Sh.left_eq S ws hT).2
    have HE:Hid (Sh.hand (S - (Sh.quos S ws.sum ws).sum) (Sh.quos S ws.sum ws) (Sh.rests S ws.sum ws) = Sh.sizes S ws):=hdq rfl
    have hleft:S - (Sh.quos S ws.sum ws).sum≤n:=by
     have:=Sh.left_le S ws hT
     unfold Sh.left at this
     omega
    have hQS:Hid (∀ k,(Sh.quos S ws.sum ws).getD k 0≤S):=hdq fun k=>Nat.le_trans (Sh.getD_le_sum _ _) hsum
    have hS63:S≤9223372036854775808:=by unfold Wd.I64 at hI; omega
    have R1':Row wx g1 (uvec (part 0 (Sh.quos S ws.sum ws))) 210:=by rw [zit,HQl]; exact R1
    have R2':Row wx g2 (uvec (part 0 (Sh.rests S ws.sum ws))) 210:=by rw [zit,HRl]; exact R2
    generalize Sh.quos S ws.sum ws = Q at *
    generalize Sh.rests S ws.sum ws = Rs at *
    clear R1 R2
    go_wp2_with fail
    go_loopw [12,53] (fun l i wr=>∃ k:Nat,k≤n∧i = .int .i64 k∧l = .int .u64 ((S - (Q.take k).sum:Nat):Int)∧Row wr g1 (uvec (part k Q)) 210∧Row wr g2 (uvec (part k Rs)) 210∧Below w.heap.size w wr) (fun _ i _=>n - (intOf i).toNat)
    case atStart=>exact ⟨0,by omega,rfl,by simp,R1',R2',J1⟩
    case round =>
     obtain ⟨k,hk,rfl,rfl,Z1,Z2,BB⟩:=hrel
     clear R1' R2' J1
     by_cases hlt:k < n
     ·have hkl:k < (ni ws).length:=by simp [ni]; omega
      have hc0:=HN.out k hkl
      rw [zqm] at hc0
      have hc:wr.cell? ⟨b,off + k,none⟩ = some (.int .i64 ((ws.getD k 0:Nat):Int)):=(BB.cell (block_lt_of_cell hc0)).trans hc0
      have hz:=HW.out k hlt
      have hTz:ws.getD k 0≤ws.sum:=Sh.getD_le_sum ws k
      have HS:=hdq (zec Q k (by omega))
      have hQk:=zfl Q (k + 1)
      have PQ:=hdq (zlu Q k (by omega))
      have PR:=hdq (zlu Rs k (by omega))
      have hql:=zlv Q k (by omega)
      have hrl:=zlv Rs k (by omega)
      have fq:=hdq (FQ.out k)
      have fr:=hdq (FR.out k)
      generalize ws.getD k 0 = z at *
      have CP:Hid (∀ W:World,Calls Tryz.prog 257 #[.int .u64 (S:Int),.int .i64 (z:Int)] W fun e w'=>e = .returned (.agg #[.int .i64 (Wd.hi ((S * z:Nat):Int)),.int .u64 (Wd.lo ((S * z:Nat):Int))])∧Below W.heap.size W w'):=hdq (zkf S z hS63 hz.2)
      have CQ:Hid (∀ W:World,Calls Tryz.prog 256 #[.agg #[.int .i64 (Wd.hi ((S * z:Nat):Int)),.int .u64 (Wd.lo ((S * z:Nat):Int))],.int .i64 (ws.sum:Int)] W fun e w'=>e = .returned (.tuple #[.int .u64 ((Q.getD k 0:Nat):Int),.int .u64 ((Rs.getD k 0:Nat):Int)])∧Below W.heap.size W w'):=hdq fun W=>by
       have h:=quo_any (S * z) ws.sum W hT (by
        rw [Nat.mul_comm ws.sum]
        refine Nat.lt_of_le_of_lt (Nat.mul_le_mul_left S hTz) ?_
        exact Nat.mul_lt_mul_of_pos_right (by omega) hT) (by omega)
       rw [fq.out,fr.out]
       exact h
      generalize ((S * z:Nat):Int) = pz at *
      clear FQ FR fq fr
      generalize hqk:Q.getD k 0 = q at *
      generalize hrk:Rs.getD k 0 = r at *
      clear hqk hrk
      generalize hpq:part k Q = p1 at *
      generalize hpr:part k Rs = p2 at *
      have c1:=Z1.ucell (k:=k) (by omega)
      have c2:=Z2.ucell (k:=k) (by omega)
      have f1:=Z1.frozen k
      have f2:=Z2.frozen k
      clear c1 c2 f1 f2
      go_wp2_with fail
      refine (CP.out _).mono ?_
      rintro _ w3 ⟨rfl,hb3⟩
      go_wp2_with fail
      refine (CQ.out _).mono ?_
      rintro _ w4 ⟨rfl,hb4⟩
      have Y1:=(Z1.below hb3).below hb4
      have Y2:=(Z2.below hb3).below hb4
      have B4:=zab (zab BB hb3) hb4
      clear CP CQ hb3 hb4 Z1 Z2 BB hc
      have c1:=Y1.ucell (k:=k) (by omega)
      have c2:=Y2.ucell (k:=k) (by omega)
      have f1:=Y1.frozen k
      have f2:=Y2.frozen k
      go_wp2
      go_roundw
      case rel =>
       refine ⟨k + 1,by omega,by go_num,?_,?_,?_,zar (zar B4 hg1 _ _) hg2 _ _⟩
       ·have e:IntKind.u64.wrap (((S - (Q.take k).sum:Nat):Int) - (q:Int)) = ((S - (Q.take (k + 1)).sum:Nat):Int):=by
         rw [HS.out] at hQk ⊢
         rw [IntKind.wrap_u64]
         omega
        rw [e]
       ·rw [← PQ.out]
        exact Y1.uset.other ⟨g2,k,none⟩ hne _
       ·rw [← PR.out]
        exact (Y2.other ⟨g1,k,none⟩ hne2 _).uset
      case measure=>simp [intOf]; omega
     ·have hk0:n = k:=by omega
      subst hk0
      have zQ:part n Q = Q:=HQl ▸ zlw Q
      have zR:part n Rs = Rs:=HRl ▸ zlw Rs
      rw [zQ] at Z1
      rw [zR] at Z2
      rw [List.take_of_length_le (by omega)]
      clear zQ zR FQ FR hlt hk
      go_wp2_with fail
      go_loopw [12] (fun l wr=>∃ (j:Nat) (o r:List Nat),l = .int .u64 (j:Int)∧j≤n∧o.length = n∧r.length = n∧Sh.hand j o r = Sh.sizes S ws∧(∀ i,o.getD i 0 + j≤S + 8)∧Row wr g1 (uvec o) 210∧Row wr g2 (uvec r) 210∧Below w.heap.size w wr) (fun l _=>(intOf l).toNat)
      case atStart=>exact ⟨_,Q,Rs,rfl,hleft,HQl,HRl,HE.out,fun i=>by have:=hQS.out i; omega,Z1,Z2,BB⟩
      case round =>
       clear Z1 Z2 BB HE hQS HQl HRl
       obtain ⟨j,o,r,rfl,hj,hol,hrl,HE,hob,Z1,Z2,BB⟩:=hrel
       replace HE:=hdq HE
       replace hob:=hdq hob
       by_cases h0:0 < j
       ·generalize hW:wr = w5 at *
        go_wp2_with fail
        go_loopw [15,85] (fun bs i wr=>∃ k:Nat,k≤n∧i = .int .i64 k∧bs = .int .i64 ((Sh.bst r k:Nat):Int)∧w5 = wr) (fun _ i _=>n - (intOf i).toNat)
        case atStart=>exact ⟨0,by omega,rfl,rfl,rfl⟩
        case round =>
         obtain ⟨k,hk,rfl,rfl,hw5⟩:=hrel
         subst hw5
         have hbk:Sh.bst r k < n:=hrl ▸ Sh.quo_lt r k (by omega) (by omega)
         have HB:Hid (Sh.bst r (k + 1) = if r.getD (Sh.bst r k) 0 < r.getD k 0 then k else Sh.bst r k):=hdq rfl
         by_cases hlt:k < n
         ·have c1:=Z2.ucell (k:=k) (by omega)
          have c2:=Z2.ucell (k:=Sh.bst r k) (by omega)
          generalize Sh.bst r k = bk at *
          generalize r.getD k 0 = x at *
          generalize r.getD bk 0 = y at *
          by_cases hxy:y < x
          ·have hxy2:(y:Int) < (x:Int):=by omega
           have HB2:=HB.out
           rw [if_pos hxy] at HB2
           go_wp2
           go_roundw
           case rel=>exact ⟨k + 1,by omega,by go_num,by rw [HB2],trivial⟩
           case measure=>simp [intOf]; omega
          ·have hxy2:¬ (y:Int) < (x:Int):=by omega
           have HB2:=HB.out
           rw [if_neg hxy] at HB2
           go_wp2
           go_roundw
           case rel=>exact ⟨k + 1,by omega,by go_num,by rw [HB2],trivial⟩
           case measure=>simp [intOf]; omega
         ·have hk0:n = k:=by omega
          subst hk0
          have hbest:Sh.bst r n = Sh.best r:=by unfold Sh.best; rw [hrl]
          rw [hbest]
          rw [hbest] at hbk
          obtain ⟨j,rfl⟩:∃ i,j = i + 1:=⟨j - 1,by omega⟩
          have HE2:Hid (Sh.hand j (o.set (Sh.best r) (o.getD (Sh.best r) 0 + 1)) (r.set (Sh.best r) 0) = Sh.sizes S ws):=hdq HE.out
          have hob2:Hid (∀ i,(o.set (Sh.best r) (o.getD (Sh.best r) 0 + 1)).getD i 0 + j≤S + 8):=hdq fun i=>by
           rw [Sh.getD_set _ _ _ _ (by omega)]
           have h1:=hob.out i
           have h2:=hob.out (Sh.best r)
           split <;> omega
          have hx:=hob.out (Sh.best r)
          clear HE hob HB hbest
          generalize Sh.best r = bb at *
          have c1:=Z1.ucell (k:=bb) (by omega)
          have c2:=Z2.ucell (k:=bb) (by omega)
          have f1:=Z1.frozen bb
          have f2:=Z2.frozen bb
          generalize o.getD bb 0 = x at *
          have e1:IntKind.u64.wrap ((x:Int) + 1) = ((x + 1:Nat):Int):=by rw [IntKind.wrap_u64]; omega
          go_wp2
          go_roundw
          case rel =>
           refine ⟨j,o.set bb (x + 1),r.set bb 0,rfl,by omega,by simp [hol],by simp [hrl],HE2.out,hob2.out,?_,?_,zar (zar BB hg1 _ _) hg2 _ _⟩
           ·exact (Row.uset (x:=x + 1) Z1).other ⟨g2,bb,none⟩ hne _
           ·exact Row.uset (x:=0) (Z2.other ⟨g1,bb,none⟩ hne2 _)
          case measure=>simp [intOf]
       ·have hj0:j = 0:=by omega
        subst hj0
        have e1:o = Sh.sizes S ws:=HE.out
        subst e1
        have ho:∀ i,(Sh.sizes S ws).getD i 0≤S:=Sh.sizes_le S ws hT
        have EA:iv ((Sh.sizes S ws).map (sgn (decide (a < 0)))) = iv (Sh.allot a ws):=by
         unfold Sh.allot
         rw [hS]
         congr 1
         refine List.map_congr_left fun i _=>?_
         unfold sgn
         by_cases h:a < 0 <;> simp [h]
        have SG:=hdq fun (W:World) (hn:NumsU W g1 0 (Sh.sizes S ws))=>znh (decide (a < 0)) g1 n n (Sh.sizes S ws) W hn hol h8 (fun i=>by
         have h:=ho i
         unfold Wd.I64 at hI
         by_cases c:a < 0
         ·exact .inr ⟨by simp [c],by omega⟩
         ·exact .inl (by omega))
        rw [EA] at SG
        have NU:NumsU wr g1 0 (Sh.sizes S ws):=fun i hi=>by
         rw [Nat.zero_add]
         exact Z1.ucell hi
        go_wp2_with fail
        refine (SG.out _ NU).mono ?_
        rintro _ w9 ⟨v,rfl,hown,hb9⟩
        go_wp2
        go_ret2
        exact ⟨v,rfl,ztj hown BB.size,zab BB hb9⟩
end Go.Proofs.YtlpdfglbdijkoaaGreatDoor