/-
  Own texts, several in one (Arr, Reg, RegV, Els).
-/
import Derived.Test.YtlpdfglbdijkoaaGreatDoorMrg1
import Derived.Laws.Tables
import Derived.Orders
import Derived.Deep.MidRow
import Derived.Deep.SlicePairs
namespace Go.Proofs.YtlpdfglbdijkoaaGreatDoor
open Go.RowKit
set_option linter.unusedVariables false
set_option linter.unusedSimpArgs false
def vec (n:Nat) (f:Nat→Int):Array Value:=(Array.range n).map fun i=>.int .i64 (f i)
theorem zsn (n:Nat) (f:Nat→Int):(vec n f).size = n:=by simp [vec]
theorem vec_get (n:Nat) (f:Nat→Int) (i:Nat) (h:i < n):(vec n f)[i]? = some (.int .i64 (f i)):=by simp [vec,h]
theorem zhy {n:Nat} {f g:Nat→Int} (h:∀ i,i < n→f i = g i):vec n f = vec n g:=by
 unfold vec
 apply Array.ext
 ·simp
 ·intro i h1 h2
  simp at h1
  simp [h i h1]
theorem vec_set (n:Nat) (f:Nat→Int) (k:Nat) (x:Int):(vec n f).setIfInBounds k (.int .i64 x) = vec n (fun i=>if i = k then x else f i):=by
 apply Array.ext_getElem?
 intro i
 rw [Array.getElem?_setIfInBounds]
 by_cases e:k = i
 ·subst e
  by_cases hk:k < n
  ·have e2:=vec_get n (fun i=>if i = k then x else f i) k hk
   rw [e2]; simp [zsn,hk]
  ·simp [vec,hk]
 ·have e':¬ i = k:=fun h=>e h.symm
  simp [vec,e,e',Array.getElem?_map]
  by_cases hk:i < n
  ·simp [hk,e']
  ·simp [hk]
theorem Row.fill {W:World} {g k n:Nat} {f f':Nat→Int} {x:Int} {t:TypeId} (R:Row W g (vec n f) t) (h:∀ i,i < n→(if i = k then x else f i) = f' i):Row (W.setCell ⟨g,k,none⟩ (.int .i64 x)) g (vec n f') t:=by
 have h1:=R.set k (.int .i64 x)
 rw [vec_set,zhy h] at h1
 exact h1
theorem Row.as {W:World} {g n:Nat} {f f':Nat→Int} {t:TypeId} (R:Row W g (vec n f) t) (h:∀ i,i < n→f i = f' i):Row W g (vec n f') t:=zhy h ▸ R
theorem zat {B:Nat} {w W:World} (h:Below B w W):Below B w W.drew:=⟨h.os,h.tape,h.output,h.size,h.block⟩
theorem zeq {B:Nat} {w W:World} (h:Below B w W) (n:Nat):Below B w (W.drewN n):=⟨h.os,h.tape,h.output,h.size,h.block⟩
section
variable {P:Program} {ops:Array Oper} {rest:List Oper} {o:Oper} {a:Act} {Q:Exit→Act→World→Prop} {W:World}
theorem zjk {N:Tmp} (hd:o.dst = some N) (hgd:o.guard = none) (T:TypeId) (x:Operand) (ho:o.op = .box T x) (cs:Array Value) (hx:a.eval x = .agg cs)
  (h:∀ g w1,W.heap.size≤g→Row w1 g cs T→Below W.heap.size W w1→wpList P ops Q rest (a.put o.dst (.pointer (some ⟨g,0,none⟩))) w1):wpList P ops Q (o :: rest) a W:=by
 refine wpList_plain hgd fun K hK=>?_
 unfold Oper.wp execOp
 simp only [ho,hx]
 exact hK _ _ (h W.heap.size (W.alloc (.cells cs T)) (Nat.le_refl _) (Row.new W cs T) ((Below.refl _ _).alloc (Nat.le_refl _) _))
theorem zal {N:Tmp} (hd:o.dst = some N) (hgd:o.guard = none) (T:TypeId) (ho:o.op = .alloc T) (cs:Array Value) (hz:∀ w:World,(zeroValue T).run P w = .ok (.agg cs) w)
  (h:∀ g w1,W.heap.size≤g→Row w1 g cs T→Below W.heap.size W w1→wpList P ops Q rest (a.put o.dst (.pointer (some ⟨g,0,none⟩))) w1):wpList P ops Q (o :: rest) a W:=by
 refine wpList_plain hgd fun K hK=>?_
 unfold Oper.wp execOp
 simp only [ho,Instr.alloc,Sem.run_bind,hz,Result.andThen_ok]
 exact hK _ _ (h W.heap.size (W.alloc (.cells cs T)) (Nat.le_refl _) (Row.new W cs T) ((Below.refl _ _).alloc (Nat.le_refl _) _))
theorem zaq {N:Tmp} (hd0:o.dst = some N) (hgd:o.guard = none) (T:TypeId) (x:Operand) (ho:o.op = .load T x) (g:Nat) (hx:a.eval x = .pointer (some ⟨g,0,none⟩)) {cs:Array Value} {t:TypeId} (R:Row W g cs t)
  (d:TypeDesc) (hu:P.underlying T = some d) (hd:(match d with | .struct _ | .array _ _=>true | _=>false) = true) (hi:(P.info? T).map (·.size) = some cs.size)
  (h:wpList P ops Q rest (a.put o.dst (.agg cs)) W):wpList P ops Q (o :: rest) a W :=
 wpList_load_row hgd T x ho g hx t cs (0,0) d R hu hd hi h
structure Stored (W:World) (g:Nat) (w1:World):Prop where
 other:∀ k,k ≠ g→w1.heap[k]? = W.heap[k]?
 size:w1.heap.size = W.heap.size
 os:w1.os = W.os
 tape:w1.tape = W.tape
 output:w1.output = W.output
theorem Stored.below {B:Nat} {W:World} {g:Nat} {w0 w1:World} (h:Stored W g w1) (hB:Below B w0 W) (hg:B≤g):Below B w0 w1 :=
 hB.trans ⟨h.os,h.tape,h.output,by rw [h.size]; exact Nat.le_refl _,fun k hk=>h.other k (by omega)⟩
theorem Row.stored {W:World} {g g':Nat} {w1:World} {cs:Array Value} {t:TypeId} (R:Row W g' cs t) (h:Stored W g w1) (hn:g' ≠ g):Row w1 g' cs t:=(h.other g' hn).trans R
theorem zcr (W:World) (g:Nat) (cells:Array Value):Stored W g (W.setRow g cells):=by
 refine ⟨fun k hk=>?_,size_setRow _ _ _,rfl,rfl,rfl⟩
 exact setRow_other W g k cells hk
theorem zad (hgd:o.guard = none) (T:TypeId) (x y:Operand) (ho:o.op = .store T x y) (g:Nat) (cells:Array Value) (hx:a.eval x = .pointer (some ⟨g,0,none⟩)) (hy:a.eval y = .agg cells)
  {t:TypeId} {old:Array Value} (R:Row W g old t) (hi:(P.info? T).map (·.size) = some cells.size) (hold:old.size = cells.size) (h1:cells.all (·.oneCell') = true) (hN:o.dst = none)
  (h:∀ w1,Row w1 g cells t→Stored W g w1→wpList P ops Q rest a w1):wpList P ops Q (o :: rest) a W:=by
 refine wpList_plain hgd fun K hK=>wp_store_row T x y ho g cells hx hy t old R hi hold h1 ?_
 rw [hN]
 exact hK _ _ (h _ (setRow_heap W g old cells t _ R) (zcr W g cells))
end
def rowOf (w:World) (g:Nat):Array Value:=match w.heap[g]? with | some (.cells c _ _)=>c | _=>#[]
def RowSz (w:World) (g n:Nat):Prop:=∃ cs t,Row w g cs t∧cs.size = n
theorem Row.of {w:World} {g:Nat} {cs:Array Value} {t:TypeId} (h:Row w g cs t):rowOf w g = cs:=by unfold Row at h; unfold rowOf; rw [h]
theorem Row.sz {w:World} {g n:Nat} {cs:Array Value} {t:TypeId} (h:Row w g cs t) (hn:cs.size = n):RowSz w g n:=⟨cs,t,h,hn⟩
def dstAt (ops:Array Oper) (i:Nat):Option Tmp:=(ops[i]?).bind (·.dst)
def Upd (L:Nat→Bool) (i:Nat):Nat→Bool:=fun j=>L j || j == i
def updV (V:Nat→Value) (i:Nat) (v:Value):Nat→Value:=fun j=>if j = i then v else V j
def fill (ops:Array Oper) (L:Nat→Bool) (V:Nat→Value) (a0:Act):Nat→Act
 | 0=>a0
 | n + 1=>if L n then (fill ops L V a0 n).put (dstAt ops n) (V n) else fill ops L V a0 n
theorem zca {ops:Array Oper} {L L':Nat→Bool} {V V':Nat→Value} {a0:Act}:∀ n,(∀ j,j < n→L j = L' j∧(L j = true→V j = V' j))→fill ops L V a0 n = fill ops L' V' a0 n
 | 0,_=>rfl
 | n + 1,h=>by
  have ih:=zca (ops:=ops) (a0:=a0) n (fun j hj=>h j (by omega))
  obtain ⟨h1,h2⟩:=h n (by omega)
  unfold fill
  rw [← h1,ih]
  by_cases e:L n = true
  ·rw [if_pos e,if_pos e,h2 e]
  ·rw [if_neg e,if_neg e]
theorem zhk {ops:Array Oper} {L:Nat→Bool} {V:Nat→Value} {a0:Act} (hd:∀ i j s,dstAt ops i = some s→dstAt ops j = some s→i = j) (i:Nat) (v:Value) (hL:L i = false) :
  ∀ n,i < n→(fill ops L V a0 n).put (dstAt ops i) v = fill ops (Upd L i) (updV V i v) a0 n
 | 0,h=>by omega
 | n + 1,h=>by
  by_cases e:i = n
  ·subst e
   have h1:fill ops (Upd L i) (updV V i v) a0 (i + 1) = (fill ops (Upd L i) (updV V i v) a0 i).put (dstAt ops i) v:=by
    rw [fill,if_pos (by simp [Upd])]; simp [updV]
   have h2:fill ops L V a0 (i + 1) = fill ops L V a0 i:=by rw [fill,if_neg (by simp [hL])]
   rw [h1,h2]
   congr 1
   exact zca i (fun j hj=>⟨by simp [Upd]; intro; omega,fun _=>by simp [updV]; intro; omega⟩)
  ·have ih:=zhk (a0:=a0) (V:=V) hd i v hL n (by omega)
   have e1:Upd L i n = L n:=by simp [Upd]; intro; omega
   have e2:updV V i v n = V n:=by simp [updV]; intro; omega
   unfold fill
   rw [e1,e2,← ih]
   by_cases c:L n = true
   ·rw [if_pos c,if_pos c]
    exact Act.put_comm _ _ _ (fun d h1 h2=>e (hd i n d h2 h1))
   ·rw [if_neg c,if_neg c]
theorem ztb (a:Act) (d:Option Tmp) (v:Value):(a.put d v).tmps.size = a.tmps.size:=by cases d <;> simp [Act.put]
theorem zcq {ops:Array Oper} {L:Nat→Bool} {V:Nat→Value} {a0:Act}:∀ n,(fill ops L V a0 n).tmps.size = a0.tmps.size
 | 0=>rfl
 | n + 1=>by
  unfold fill
  by_cases c:L n = true
  ·rw [if_pos c,ztb,zcq n]
  ·rw [if_neg c,zcq n]
theorem put_defers' (a:Act) (d:Option Tmp) (v:Value):(a.put d v).defers = a.defers:=by cases d <;> rfl
theorem zdz {ops:Array Oper} {L:Nat→Bool} {V:Nat→Value} {a0:Act}:∀ n,(fill ops L V a0 n).defers = a0.defers
 | 0=>rfl
 | n + 1=>by
  unfold fill
  by_cases c:L n = true
  ·rw [if_pos c,put_defers',zdz n]
  ·rw [if_neg c,zdz n]
theorem zhb (a:Act) (d:Option Tmp) (v:Value) (s:Nat) (hs:s < a.tmps.size):(a.put d v).tmps.getD s undef = if d = some s then v else a.tmps.getD s undef:=by
 cases d with
 | none=>rfl
 | some t =>
  by_cases e:t = s
  ·subst e
   simp [Act.put,hs]
  ·have e2:¬ some t = some s:=fun h=>e (by injection h)
   rw [if_neg e2]
   simp [Act.put,Array.getElem?_setIfInBounds_ne e]
theorem zhl {ops:Array Oper} {L:Nat→Bool} {V:Nat→Value} {a0:Act} (s:Nat) (hs:s < a0.tmps.size):∀ n,(∀ j,j < n→dstAt ops j ≠ some s)→(fill ops L V a0 n).tmps.getD s undef = a0.tmps.getD s undef
 | 0,_=>rfl
 | n + 1,h=>by
  have ih:=zhl (ops:=ops) (L:=L) (V:=V) s hs n (fun j hj=>h j (by omega))
  unfold fill
  by_cases c:L n = true
  ·rw [if_pos c,zhb _ _ _ _ (by rw [zcq]; exact hs),if_neg (h n (by omega)),ih]
  ·rw [if_neg c,ih]
theorem zem {ops:Array Oper} {L:Nat→Bool} {V:Nat→Value} {a0:Act} (hd:∀ i j s,dstAt ops i = some s→dstAt ops j = some s→i = j) (i s:Nat) (hs:s < a0.tmps.size) (hL:L i = true) (hi:dstAt ops i = some s) :
  ∀ n,i < n→(fill ops L V a0 n).tmps.getD s undef = V i
 | 0,h=>by omega
 | n + 1,h=>by
  unfold fill
  by_cases e:i = n
  ·subst e
   rw [if_pos hL,zhb _ _ _ _ (by rw [zcq]; exact hs),if_pos hi]
  ·have ih:=zem (V:=V) hd i s hs hL hi n (by omega)
   by_cases c:L n = true
   ·rw [if_pos c,zhb _ _ _ _ (by rw [zcq]; exact hs),if_neg (fun h2=>e (hd i n s hi h2)),ih]
   ·rw [if_neg c,ih]
def regOk (ops:Array Oper):Bool :=
 (List.range ops.size).all fun i=>((ops[i]?).map fun o=>o.after.all fun e=>!(Region.binds .any e) || decide (e.on < i)).getD true &&
  (List.range i).all fun j=>match dstAt ops i,dstAt ops j with | some s,some t=>s != t | _,_=>true
theorem zco {ops:Array Oper} (h:regOk ops = true):∀ i j s,dstAt ops i = some s→dstAt ops j = some s→i = j:=by
 have key:∀ i j s,j < i→dstAt ops i = some s→dstAt ops j = some s→False:=by
  intro i j s hji hi hj
  have hlt:i < ops.size:=by
   by_cases c:i < ops.size
   ·exact c
   ·unfold dstAt at hi; rw [Array.getElem?_eq_none (by omega)] at hi; cases hi
  unfold regOk at h
  have h1:=List.all_eq_true.1 h i (by simpa using hlt)
  rw [Bool.and_eq_true] at h1
  have h2:=List.all_eq_true.1 h1.2 j (by simpa using hji)
  rw [hi,hj] at h2
  simp at h2
 intro i j s hi hj
 rcases Nat.lt_trichotomy i j with c | c | c
 ·exact (key j i s c hj hi).elim
 ·exact c
 ·exact (key i j s c hi hj).elim
theorem zbv {ops:Array Oper} (h:regOk ops = true) (i:Nat) (o:Oper) (ho:ops[i]? = some o) (e:Edge) (he:e ∈ o.after) (hbe:Region.binds .any e = true):e.on < i:=by
 have hlt:i < ops.size:=by
  by_cases c:i < ops.size
  ·exact c
  ·rw [Array.getElem?_eq_none (by omega)] at ho; cases ho
 unfold regOk at h
 have h1:=List.all_eq_true.1 h i (by simpa using hlt)
 rw [Bool.and_eq_true,ho] at h1
 have h2:=h1.1
 simp only [Option.map_some,Option.getD_some] at h2
 have h3:=(Array.all_eq_true_iff_forall_mem.1 h2) e he
 rw [hbe] at h3
 simpa using h3
section
variable {P:Program} {Q:Exit→Act→World→Prop} {ops:Array Oper} {a0:Act}
def StepOk (P:Program) (Q:Exit→Act→World→Prop) (ops:Array Oper) (a0:Act) (I:(Nat→Bool)→(Nat→Value)→World→Prop) (i:Nat) (o:Oper):Prop :=
 ∀ (L:Nat→Bool) (V:Nat→Value) (w:World),L i = false→(∀ k,((o.after.toList.filter (Region.binds .any)).map (·.on)).contains k = true→L k = true)→I L V w →
  ∀ a:Act,a.defers = a0.defers→(∀ j s,L j = true→dstAt ops j = some s→s < a0.tmps.size→j < ops.size→a.eval (.tmp s) = V j) →
   (∀ s,s < a0.tmps.size→(∀ j,j < ops.size→dstAt ops j ≠ some s)→a.eval (.tmp s) = a0.eval (.tmp s)) →
   wpOp P ops Q i (fun a' w'=>∃ v,a' = a.put (dstAt ops i) v∧I (Upd L i) (updV V i v) w') a w
theorem zgf (I:(Nat→Bool)→(Nat→Value)→World→Prop) (hok:regOk ops = true)
  (hstep:∀ (i:Nat) (o:Oper),ops[i]? = some o→StepOk P Q ops a0 I i o)
  (hend:∀ V w,I (fun _=>true) V w→Q .normal (fill ops (fun _=>true) V a0 ops.size) w) :
  ∀ fuel (listed:Array Bool) V w,listed.size = ops.size→((List.range ops.size).countP fun i=>!listed.getD i true)≤fuel→I (fun i=>listed.getD i true) V w →
   wpAny P .any ops Q fuel listed (fill ops (fun i=>listed.getD i true) V a0 ops.size) w:=by
 have hdst:=zco hok
 have allDone:∀ (listed:Array Bool),listed.size = ops.size→Region.ready .any ops listed = []→(fun i=>listed.getD i true) = fun _=>true:=by
  intro listed hsz hr
  funext i
  have main:∀ n i,i < n→listed.getD i true = true:=by
   intro n
   induction n with
   | zero=>intro i h; omega
   | succ n ih =>
    intro i hi
    by_cases c:listed.getD i true = true
    ·exact c
    ·exfalso
     have hlt:i < ops.size:=by
      by_cases c2:i < ops.size
      ·exact c2
      ·exact absurd (by simp [Array.getD,show ¬ i < listed.size by omega]) c
     have hm:i ∈ Region.ready .any ops listed:=by
      unfold Region.ready
      rw [List.mem_filter]
      refine ⟨by simpa using hlt,?_⟩
      have ho:ops[i]? = some ops[i]:=Array.getElem?_eq_getElem hlt
      rw [ho]
      simp only [Option.map_some,Option.getD_some,Bool.and_eq_true]
      refine ⟨by simpa using c,?_⟩
      rw [Array.all_eq_true_iff_forall_mem]
      intro e he
      by_cases hbe:Region.binds .any e = true
      ·have hlte:=zbv hok i _ ho e he hbe
       have h2:=ih e.on (by omega)
       have h3:listed.getD e.on false = listed.getD e.on true:=by simp [Array.getD,show e.on < listed.size by omega]
       rw [h3,h2]; simp
      ·simp [hbe]
     rw [hr] at hm; cases hm
  exact main (i + 1) i (by omega)
 intro fuel
 induction fuel with
 | zero =>
  intro listed V w hsz hc hI
  have hr:Region.ready .any ops listed = []:=by
   unfold Region.ready
   rw [List.filter_eq_nil_iff]
   intro i hi
   have h0:(List.range ops.size).countP (fun i=>!listed.getD i true) = 0:=by omega
   have h1:=List.countP_eq_zero.1 h0 i hi
   simp at h1 ⊢
   intro h2; rw [h1] at h2; cases h2
  have hL:=allDone listed hsz hr
  refine ⟨hr,?_⟩
  rw [hL] at hI ⊢
  exact hend V w hI
 | succ fuel ih =>
  intro listed V w hsz hc hI
  refine ⟨fun hr=>?_,fun i hi=>?_⟩
  ·have hL:=allDone listed hsz hr
   rw [hL] at hI ⊢
   exact hend V w hI
  ·have hi':=hi
   unfold Region.ready at hi'
   rw [List.mem_filter] at hi'
   obtain ⟨hr,hp⟩:=hi'
   have hlt:i < ops.size:=by simpa using hr
   have ho:ops[i]? = some ops[i]:=Array.getElem?_eq_getElem hlt
   rw [ho] at hp
   simp only [Option.map_some,Option.getD_some,Bool.and_eq_true] at hp
   obtain ⟨hp1,hp2⟩:=hp
   have hLi:listed.getD i true = false:=by simpa using hp1
   have hpre:∀ e ∈ (ops[i]).after,Region.binds .any e = true→listed.getD e.on true = true:=by
    intro e he hbe
    have h1:=(Array.all_eq_true_iff_forall_mem.1 hp2) e he
    have hlte:=zbv hok i _ ho e he hbe
    rw [hbe] at h1
    have h3:listed.getD e.on false = listed.getD e.on true:=by simp [Array.getD,show e.on < listed.size by omega]
    rw [h3] at h1; simpa using h1
   have hs:=hstep i _ ho (fun j=>listed.getD j true) V w hLi (fun k hk=>by
    simp only [List.contains_iff_mem,List.mem_map,List.mem_filter] at hk
    obtain ⟨e,⟨he,hbe⟩,rfl⟩:=hk
    exact hpre e (by simpa using he) hbe) hI (fill ops (fun j=>listed.getD j true) V a0 ops.size) (zdz _)
    (fun j s hj hd hs hjn=>zem hdst j s hs hj hd ops.size hjn)
    (fun s hs hno=>zhl s hs ops.size hno)
   refine wpOp_mono ?_ hs
   rintro a' w' ⟨v,rfl,hI'⟩
   rw [zhk hdst i v hLi ops.size hlt]
   have hU:Upd (fun j=>listed.getD j true) i = fun j=>(listed.setIfInBounds i true).getD j true:=by
    funext j
    unfold Upd
    by_cases c:i = j
    ·subst c; simp [Array.getD]
    ·have c':¬ j = i:=fun h=>c h.symm
     rw [getD_set_ne true c]
     simp [c']
   rw [hU] at hI' ⊢
   refine ih _ _ _ (by simpa using hsz) ?_ hI'
   have hcount:(List.range ops.size).countP (fun j=>!(listed.setIfInBounds i true).getD j true) + 1≤(List.range ops.size).countP (fun j=>!listed.getD j true):=by
    have hsplit:∀ l:List Nat,l.Nodup→i ∈ l→l.countP (fun j=>!(listed.setIfInBounds i true).getD j true) + 1 = l.countP (fun j=>!listed.getD j true):=by
     intro l hn hm
     induction l with
     | nil=>cases hm
     | cons x l ihl =>
      rw [List.nodup_cons] at hn
      by_cases hx:x = i
      ·subst hx
       have e1:(listed.setIfInBounds x true).getD x true = true:=by simp [Array.getD]
       have e2:∀ l:List Nat,x ∉ l→l.countP (fun j=>!(listed.setIfInBounds x true).getD j true) = l.countP (fun j=>!listed.getD j true):=by
        intro l hl
        apply List.countP_congr
        intro y hy
        rw [getD_set_ne true (fun h=>hl (by rw [h]; exact hy))]
       rw [List.countP_cons,List.countP_cons,e2 l hn.1,e1,hLi]; simp
      ·have hm2:i ∈ l:=by
        rcases List.mem_cons.1 hm with h | h
        ·exact absurd h.symm hx
        ·exact h
       have:=ihl hn.2 hm2
       rw [List.countP_cons,List.countP_cons,getD_set_ne true (fun h=>hx h.symm)]
       omega
    have:=hsplit _ List.nodup_range hr
    omega
   omega
theorem zcn {id n:Nat} (hm:P.follows .mixedOrders = true) (I:(Nat→Bool)→(Nat→Value)→World→Prop) {w0:World} (hok:regOk ops = true)
  (h0:I (fun i=>decide (ops.size≤i)) (fun _=>undef) w0.drew)
  (hstep:∀ (i:Nat) (o:Oper),ops[i]? = some o→StepOk P Q ops a0 I i o)
  (hn:ops.size = n) (hend:∀ V w,I (fun _=>true) V w→Q .normal (fill ops (fun _=>true) V a0 n) w):(Code.region id ops true).wp P Q a0 w0:=by
 subst hn
 refine wp_region_any hm ?_
 have hL:(fun i=>(Array.replicate ops.size false).getD i true) = fun i=>decide (ops.size≤i):=by
  funext i
  by_cases c:i < ops.size
  ·simp [Array.getD,c]
  ·simp [Array.getD,c]; omega
 have hf:∀ n,n≤ops.size→fill ops (fun i=>(Array.replicate ops.size false).getD i true) (fun _=>undef) a0 n = a0:=by
  intro n
  induction n with
  | zero=>intro _; rfl
  | succ n ih =>
   intro hn
   unfold fill
   rw [if_neg (by simp [Array.getD,show n < ops.size by omega]),ih (by omega)]
 have h1:=zgf (a0:=a0) I hok hstep hend ops.size (Array.replicate ops.size false) (fun _=>undef) w0.drew (by simp) (by
  refine Nat.le_trans List.countP_le_length ?_
  simp) (hL ▸ h0)
 rw [hf ops.size (Nat.le_refl _)] at h1
 exact h1
theorem st_wp {i:Nat} {o:Oper} {a:Act} {w:World} {L:Nat→Bool} {V:Nat→Value} {I:(Nat→Bool)→(Nat→Value)→World→Prop} (ho:ops[i]? = some o) (hw:Region.wanted o (yielded ops a.tmps) = true)
  (h:o.wp P a w (fun a' w'=>∃ v,a' = a.put o.dst v∧I (Upd L i) (updV V i v) w') Q):wpOp P ops Q i (fun a' w'=>∃ v,a' = a.put (dstAt ops i) v∧I (Upd L i) (updV V i v) w') a w:=by
 unfold wpOp
 simp only [ho]
 rw [if_pos hw]
 have e:dstAt ops i = o.dst:=by unfold dstAt; rw [ho]; rfl
 rw [e]
 exact .inl h
theorem zss {i:Nat} {o:Oper} {a:Act} {w:World} {L:Nat→Bool} {V:Nat→Value} {I:(Nat→Bool)→(Nat→Value)→World→Prop} (ho:ops[i]? = some o) (hw:Region.wanted o (yielded ops a.tmps) = true)
  (T:TypeId) (x y:Operand) (hop:o.op = .store T x y) (g:Nat) (cells:Array Value) (hx:a.eval x = .pointer (some ⟨g,0,none⟩)) (hy:a.eval y = .agg cells)
  {t:TypeId} {old:Array Value} (R:Row w g old t) (hi:(P.info? T).map (·.size) = some cells.size) (hold:old.size = cells.size) (h1:cells.all (·.oneCell') = true)
  (h:∀ w1,Row w1 g cells t→Stored w g w1→I (Upd L i) (updV V i undef) w1):wpOp P ops Q i (fun a' w'=>∃ v,a' = a.put (dstAt ops i) v∧I (Upd L i) (updV V i v) w') a w :=
 st_wp ho hw (wp_store_row T x y hop g cells hx hy t old R hi hold h1 ⟨undef,rfl,h _ (setRow_heap w g old cells t _ R) (zcr w g cells)⟩)
theorem zst {i:Nat} {o:Oper} {a:Act} {w:World} {L:Nat→Bool} {V:Nat→Value} {I:(Nat→Bool)→(Nat→Value)→World→Prop} (ho:ops[i]? = some o) (hw:Region.wanted o (yielded ops a.tmps) = true)
  (T:TypeId) (hop:o.op = .alloc T) (cs:Array Value) (hz:∀ w:World,(zeroValue T).run P w = .ok (.agg cs) w)
  (h:∀ g w1,w.heap.size≤g→Row w1 g cs T→Below w.heap.size w w1→I (Upd L i) (updV V i (.pointer (some ⟨g,0,none⟩))) w1):wpOp P ops Q i (fun a' w'=>∃ v,a' = a.put (dstAt ops i) v∧I (Upd L i) (updV V i v) w') a w:=by
 refine st_wp ho hw ?_
 unfold Oper.wp execOp
 simp only [hop,Instr.alloc,Sem.run_bind,hz,Result.andThen_ok]
 exact ⟨_,rfl,h w.heap.size (w.alloc (.cells cs T)) (Nat.le_refl _) (Row.new w cs T) ((Below.refl _ _).alloc (Nat.le_refl _) _)⟩
theorem zbf {i:Nat} {o:Oper} {a:Act} {w w1:World} {L:Nat→Bool} {V:Nat→Value} {I:(Nat→Bool)→(Nat→Value)→World→Prop} {v:Value} (ho:ops[i]? = some o) (hw:Region.wanted o (yielded ops a.tmps) = true)
  (hr:(execOp a.eval o).run P w = .ok (.value v) w1) (h:I (Upd L i) (updV V i v) w1):wpOp P ops Q i (fun a' w'=>∃ v,a' = a.put (dstAt ops i) v∧I (Upd L i) (updV V i v) w') a w:=by
 unfold wpOp
 simp only [ho]
 rw [if_pos hw]
 refine .inl ?_
 unfold Oper.wp
 rw [hr]
 exact ⟨v,by unfold dstAt; rw [ho]; rfl,h⟩
theorem zfm {i:Nat} {o:Oper} {a:Act} {w:World} {L:Nat→Bool} {V:Nat→Value} {I:(Nat→Bool)→(Nat→Value)→World→Prop} (ho:ops[i]? = some o) (hw:Region.wanted o (yielded ops a.tmps) = true)
  {f : FuncId} {fn : Func} {ars : Array Operand} {ts : Array TypeId} (hop : o.op = .call { callee := .value (.func f), args := ars, argTypes := ts }) (hf : P.funcs[f]? = some fn) (hname : (fn.name == "runtime.NumGoroutine") = false) (hb : fn.body.isSome = true)
  (args:Array Value) (hargs:ars.map a.eval = args) (h:Calls P f args w fun e w'=>∃ v,e = .returned v∧I (Upd L i) (updV V i v) w'):wpOp P ops Q i (fun a' w'=>∃ v,a' = a.put (dstAt ops i) v∧I (Upd L i) (updV V i v) w') a w:=by
 unfold wpOp
 simp only [ho]
 rw [if_pos hw]
 refine .inl ?_
 have he:(callFunc f args).run P w = .ok (.enter f args) w:=by
  have h1 : fn.name ≠ "runtime.NumGoroutine" := by simpa using hname
  obtain ⟨c,hc⟩:=Option.isSome_iff_exists.1 hb
  simp [callFunc,hf,h1,hc]
 have hr:(execOp a.eval o).run P w = .ok (.enter f args) w:=by
  unfold execOp
  simp [hop,resolve,Deferred.ofValue,invoke,Act.eval,hargs,he]
 unfold Oper.wp
 rw [hr,Oper.upon_enter]
 refine h.mono ?_
 rintro e w' ⟨v,rfl,hI⟩
 exact ⟨v,by unfold dstAt; rw [ho]; rfl,hI⟩
end
def settled (ops:Array Oper) (o:Oper) (s:Nat):Bool :=
 (List.range ops.size).all fun j=>match dstAt ops j with | some t=>t != s || ((o.after.toList.filter (Region.binds .any)).map (·.on)).contains j | none=>true
def regSet (ops:Array Oper) (sz:Nat):Bool :=
 (List.range ops.size).all fun i=>((ops[i]?).map fun o =>
  (match o.op with | .select _ _=>false | _=>true) &&
  (o.op.operands.toList.all fun x=>match x with | .tmp s=>decide (s < sz) && settled ops o s | _=>true) &&
  (match o.guard with | some (j,_)=>(match dstAt ops j with | some s=>decide (s < sz) && settled ops o s | none=>true) | none=>true)).getD true
def afterOf (ops:Array Oper) (i:Nat):List Nat:=match ops[i]? with | some o=>(o.after.toList.filter (Region.binds .any)).map (·.on) | none=>[]
def waits (ops:Array Oper):Nat→Nat→Nat→Bool
 | 0,m,i=>m == i
 | f + 1,m,i=>m == i || (afterOf ops m).any fun j=>waits ops f j i
theorem zlf {ops:Array Oper} {m:Nat} (h:¬ m < ops.size):afterOf ops m = []:=by unfold afterOf; rw [Array.getElem?_eq_none (by omega)]
theorem zda {ops:Array Oper}:∀ (f m i:Nat),¬ m < ops.size→m ≠ i→waits ops f m i = false
 | 0,m,i,_,h=>by unfold waits; simpa using h
 | f + 1,m,i,hm,h=>by
  unfold waits
  rw [zlf hm]
  simpa using h
theorem zbr {ops:Array Oper} {L:Nat→Bool} (hc:∀ j k,j < ops.size→L j = true→(afterOf ops j).contains k = true→L k = true):∀ (f m i:Nat),m < ops.size→L m = true→waits ops f m i = true→L i = true
 | 0,m,i,_,hm,h=>by
  have e:m = i:=by simpa [waits] using h
  rw [← e]; exact hm
 | f + 1,m,i,hs,hm,h=>by
  unfold waits at h
  rw [Bool.or_eq_true] at h
  rcases h with h | h
  ·have e:m = i:=by simpa using h
   rw [← e]; exact hm
  ·obtain ⟨j,hj,h⟩:=List.any_eq_true.1 h
   have hLj:=hc m j hs hm (by simpa using hj)
   by_cases hjs:j < ops.size
   ·exact zbr hc f j i hjs hLj h
   ·by_cases e:j = i
    ·rw [← e]; exact hLj
    ·rw [zda f j i hjs e] at h
     cases h
def yieldB:Value→Option Bool
 | .bool b=>some b
 | _=>none
theorem zbq (ops:Array Oper) (tmps:Array Value) (j:Nat):yielded ops tmps j = (match dstAt ops j with | some s=>yieldB (tmps.getD s undef) | none=>none):=by
 unfold yielded dstAt
 cases h:(ops[j]?).bind (·.dst) with
 | none=>rfl
 | some s =>
  dsimp only [Option.bind]
  by_cases c:s < tmps.size
  ·simp only [Array.getElem?_eq_getElem c,Array.getD,c,dif_pos]
   show _ = yieldB tmps[s]
   cases tmps[s] <;> rfl
  ·simp only [Array.getElem?_eq_none (Nat.le_of_not_lt c),Array.getD,c,dif_neg,not_false_eq_true]
   simp [yieldB,undef]
section
variable {P:Program} {Q:Exit→Act→World→Prop} {ops:Array Oper} {a0:Act}
def YieldsV (P:Program) (ops:Array Oper) (S:World→Prop) (o:Oper) (v:Value) (F:Act) (w:World):Prop :=
 (Region.wanted o (yielded ops F.tmps) = false∧v = undef∧S w) ∨
 (Region.wanted o (yielded ops F.tmps) = true∧∃ w',(execOp F.eval o).run P w = .ok (.value v) w'∧S w') ∨
 (Region.wanted o (yielded ops F.tmps) = true∧v = undef∧∃ w',(execOp F.eval o).run P w = .ok .skip w'∧S w') ∨
 (Region.wanted o (yielded ops F.tmps) = true∧∃ f args w',(execOp F.eval o).run P w = .ok (.enter f args) w'∧Calls P f args w' fun e w''=>e = .returned v∧S w'')
theorem zee {L:Nat→Bool} {V vals:Nat→Value} (hd:∀ i j s,dstAt ops i = some s→dstAt ops j = some s→i = j) {o:Oper} (s:Nat) (hs:s < a0.tmps.size) (h:settled ops o s = true)
  (hpre:∀ k,((o.after.toList.filter (Region.binds .any)).map (·.on)).contains k = true→L k = true) (hV:∀ j,j < ops.size→L j = true→V j = vals j) (a:Act)
  (hev:∀ j s,L j = true→dstAt ops j = some s→s < a0.tmps.size→j < ops.size→a.eval (.tmp s) = V j)
  (hold:∀ s,s < a0.tmps.size→(∀ j,j < ops.size→dstAt ops j ≠ some s)→a.eval (.tmp s) = a0.eval (.tmp s)) :
  a.eval (.tmp s) = (fill ops (fun _=>true) vals a0 ops.size).eval (.tmp s):=by
 unfold settled at h
 have h:=List.all_eq_true.1 h
 by_cases c:∃ j,j < ops.size∧dstAt ops j = some s
 ·obtain ⟨j,hj,hjs⟩:=c
  have h1:=h j (by simpa using hj)
  rw [hjs] at h1
  simp only [bne_self_eq_false,Bool.false_or] at h1
  have hL:=hpre j h1
  rw [hev j s hL hjs hs hj,hV j hj hL]
  exact (zem hd j s hs rfl hjs ops.size hj).symm
 ·have hno:∀ j,j < ops.size→dstAt ops j ≠ some s:=fun j hj e=>c ⟨j,hj,e⟩
  rw [hold s hs hno]
  exact (zhl s hs ops.size hno).symm
theorem zil {id n:Nat} (m f:Nat) (hm:P.follows .mixedOrders = true) (S:Bool→World→Prop) (vals:Nat→Value) (F:Act) {w0:World} (hok:regOk ops = true) (hset:regSet ops a0.tmps.size = true)
  (h0:S (decide (n≤m)) w0.drew) (hn:ops.size = n) (hF:fill ops (fun _=>true) vals a0 n = F)
  (hstep:∀ (i:Nat) (o:Oper),ops[i]? = some o→∀ c w,(waits ops f m i = true→c = false)→S c w→YieldsV P ops (S (if i = m then true else c)) o (vals i) F w)
  (hend:∀ w,S true w→Q .normal F w):(Code.region id ops true).wp P Q a0 w0:=by
 subst hn
 have hdst:=zco hok
 refine zcn (n:=ops.size) hm (fun L V w=>S (L m) w∧(∀ j,j < ops.size→L j = true→V j = vals j)∧∀ j k,j < ops.size→L j = true→(afterOf ops j).contains k = true→L k = true) hok ⟨h0,fun j hj hL=>by simp at hL; omega,fun j k hj hL _=>by simp at hL; omega⟩ ?_ rfl ?_
 ·intro i o ho L V w hL hpre hI a hdef hev hold
  obtain ⟨hS,hV,hC⟩:=hI
  have hlt:i < ops.size:=by
   by_cases c:i < ops.size
   ·exact c
   ·rw [Array.getElem?_eq_none (by omega)] at ho; cases ho
  unfold regSet at hset
  have hs:=List.all_eq_true.1 hset i (by simpa using hlt)
  rw [ho] at hs
  simp only [Option.map_some,Option.getD_some,Bool.and_eq_true] at hs
  obtain ⟨⟨hsel,hops⟩,hgd⟩:=hs
  have hx:execOp a.eval o = execOp F.eval o:=by
   refine execOp_congr o ?_ ?_
   ·intro cs b e
    rw [e] at hsel
    cases hsel
   ·intro x hx
    have h1:=List.all_eq_true.1 hops x (by simpa using hx)
    rw [← hF]
    cases x with
    | tmp s =>
     dsimp only at h1
     rw [Bool.and_eq_true,decide_eq_true_eq] at h1
     exact zee hdst s h1.1 h1.2 hpre hV a hev hold
    | _=>rfl
  have hw:Region.wanted o (yielded ops a.tmps) = Region.wanted o (yielded ops F.tmps):=by
   unfold Region.wanted
   cases hg:o.guard with
   | none=>rfl
   | some gw =>
    obtain ⟨g,want⟩:=gw
    dsimp only
    rw [zbq,zbq]
    rw [hg] at hgd
    dsimp only at hgd
    cases hds:dstAt ops g with
    | none=>rfl
    | some s =>
     rw [hds] at hgd
     dsimp only at hgd ⊢
     rw [Bool.and_eq_true,decide_eq_true_eq] at hgd
     have h2:=zee hdst s hgd.1 hgd.2 hpre hV a hev hold
     rw [hF] at h2
     have h3:a.tmps.getD s undef = F.tmps.getD s undef:=h2
     rw [h3]
  have hkeep:∀ w',S (if i = m then true else L m) w'→S (Upd L i m) w'∧(∀ j,j < ops.size→Upd L i j = true→updV V i (vals i) j = vals j)∧∀ j k,j < ops.size→Upd L i j = true→(afterOf ops j).contains k = true→Upd L i k = true:=fun w' hS'=>by
   have hU:Upd L i m = if i = m then true else L m:=by
    unfold Upd
    by_cases c:i = m
    ·rw [if_pos c,c]; simp
    ·rw [if_neg c]; simp [show ¬ m = i from fun e=>c e.symm]
   rw [hU]
   refine ⟨hS',fun j hj hU=>?_,fun j k hj hU hk=>?_⟩
   ·unfold updV
    by_cases c:j = i
    ·rw [if_pos c,c]
    ·rw [if_neg c]
     exact hV j hj (by simpa [Upd,c] using hU)
   ·by_cases c:j = i
    ·have e:afterOf ops i = (o.after.toList.filter (Region.binds .any)).map (·.on):=by unfold afterOf; rw [ho]
     rw [c,e] at hk
     have:=hpre k hk
     unfold Upd
     rw [this]
     rfl
    ·have:=hC j k hj (by simpa [Upd,c] using hU) hk
     unfold Upd
     rw [this]
     rfl
  have hd:dstAt ops i = o.dst:=by unfold dstAt; rw [ho]; rfl
  have hy:=hstep i o ho (L m) w (fun e=>by
   cases hc:L m with
   | false=>rfl
   | true =>
    by_cases hms:m < ops.size
    ·rw [zbr hC f m i hms hc e] at hL
     exact hL
    ·exact absurd e (by rw [zda f m i hms (by omega)]; simp)) hS
  unfold wpOp
  simp only [ho]
  rw [hw,hd]
  rcases hy with ⟨h1,h2,h3⟩ | ⟨h1,w',h2,h3⟩ | ⟨h1,hv,w',h2,h3⟩ | ⟨h1,f,args,w',h2,h3⟩
  ·rw [if_neg (by rw [h1]; simp)]
   exact ⟨undef,rfl,by rw [← h2]; exact hkeep w h3⟩
  ·rw [if_pos h1]
   refine .inl ?_
   unfold Oper.wp
   rw [hx,h2]
   exact ⟨vals i,rfl,hkeep w' h3⟩
  ·rw [if_pos h1]
   refine .inl ?_
   unfold Oper.wp
   rw [hx,h2]
   exact ⟨undef,rfl,by rw [← hv]; exact hkeep w' h3⟩
  ·rw [if_pos h1]
   refine .inl ?_
   unfold Oper.wp
   rw [hx,h2,Oper.upon_enter]
   refine h3.mono ?_
   rintro e w'' ⟨rfl,hS'⟩
   exact ⟨vals i,rfl,hkeep w'' hS'⟩
 ·intro V w hI
  have e:fill ops (fun _=>true) V a0 ops.size = F:=by
   rw [← hF]
   exact zca ops.size fun j hj=>⟨rfl,fun _=>hI.2.1 j hj rfl⟩
  rw [e]
  exact hend w hI.1
theorem zch {id n:Nat} (m f:Nat) (hm:P.follows .mixedOrders = true) (S:Bool→World→Prop) (vals:Nat→Value) {w0:World} (hok:regOk ops = true) (hset:regSet ops a0.tmps.size = true)
  (h0:S (decide (n≤m)) w0.drew) (hn:ops.size = n)
  (h:∀ F,fill ops (fun _=>true) vals a0 n = F→(∀ (i:Nat) (o:Oper),ops[i]? = some o→∀ c w,(waits ops f m i = true→c = false)→S c w→YieldsV P ops (S (if i = m then true else c)) o (vals i) F w)∧∀ w,S true w→Q .normal F w):(Code.region id ops true).wp P Q a0 w0 :=
 have hh:=h _ rfl
 zil m f hm S vals _ hok hset h0 hn rfl hh.1 hh.2
theorem zas {S:World→Prop} {o:Oper} {v:Value} {F:Act} {w:World} (hw:Region.wanted o (yielded ops F.tmps) = true) (hS:S w) (hr:(execOp F.eval o).run P w = .ok (.value v) w):YieldsV P ops S o v F w:=.inr (.inl ⟨hw,w,hr,hS⟩)
theorem zpa {S:World→Prop} {o:Oper} {F:Act} {w w':World} (hw:Region.wanted o (yielded ops F.tmps) = true) (hS:S w') (hr:(execOp F.eval o).run P w = .ok .skip w'):YieldsV P ops S o undef F w:=.inr (.inr (.inl ⟨hw,rfl,w',hr,hS⟩))
theorem zdl {S:World→Prop} {o:Oper} {F:Act} {w:World} (hw:Region.wanted o (yielded ops F.tmps) = true) (T:TypeId) (x y:Operand) (hop:o.op = .store T x y) (g:Nat) (cells:Array Value) (hx:F.eval x = .pointer (some ⟨g,0,none⟩)) (hy:F.eval y = .agg cells)
  {t:TypeId} {old:Array Value} (R:Row w g old t) (hi:(P.info? T).map (·.size) = some cells.size) (hold:old.size = cells.size) (h1:cells.all (·.oneCell') = true) (h:∀ w1,Row w1 g cells t→Stored w g w1→S w1):YieldsV P ops S o undef F w:=by
 refine zpa hw (h _ (setRow_heap w g old cells t _ R) (zcr w g cells)) ?_
 unfold execOp
 simp only [hop,hx,hy,Instr.storeAt,Instr.sureAddr,Sem.run_bind,Sem.run_pure,Result.andThen_ok,run_storeVar_row w g t T old cells R hi hold h1]
theorem zcy {S:World→Prop} {o:Oper} {v:Value} {F:Act} {w:World} (hw:Region.wanted o (yielded ops F.tmps) = true)
  {f : FuncId} {fn : Func} {ars : Array Operand} {ts : Array TypeId} (hop : o.op = .call { callee := .value (.func f), args := ars, argTypes := ts }) (hf : P.funcs[f]? = some fn) (hname : (fn.name == "runtime.NumGoroutine") = false) (hb : fn.body.isSome = true)
  (args:Array Value) (hargs:ars.map F.eval = args) (h:Calls P f args w fun e w'=>e = .returned v∧S w'):YieldsV P ops S o v F w:=by
 refine .inr (.inr (.inr ⟨hw,f,args,w,?_,h⟩))
 have he:(callFunc f args).run P w = .ok (.enter f args) w:=by
  have h1 : fn.name ≠ "runtime.NumGoroutine" := by simpa using hname
  obtain ⟨c,hc⟩:=Option.isSome_iff_exists.1 hb
  simp [callFunc,hf,h1,hc]
 unfold execOp
 simp [hop,resolve,Deferred.ofValue,invoke,Act.eval,hargs,he]
end
def ElsAt {E:Type} (f:E→List Value) (sz:Nat) (d:E) (w:World) (a:Option Addr) (l:List E):Prop :=
 l = []∨∃ b off,a = some ⟨b,off,none⟩∧∀ i,i < l.length→w.rangeAt b (off + i * sz) (f (l.getD i d))
theorem ElsAt.below {E:Type} {f:E→List Value} {sz:Nat} {d:E} {w w':World} {a:Option Addr} {l:List E} (h:ElsAt f sz d w a l) (hb:Below w.heap.size w w'):ElsAt f sz d w' a l:=by
 rcases h with h | ⟨b,off,e,h⟩
 ·exact .inl h
 ·exact .inr ⟨b,off,e,fun i hi j v hv=>zae (h i hi j v hv) hb⟩
theorem zah {w w':World} {b o:Nat} {cs:List Value} (h:w.rangeAt b o cs) (hb:Below w.heap.size w w'):w'.rangeAt b o cs:=fun j v hv=>zae (h j v hv) hb
theorem zay {α:Type} {l:List α} {d:α} {k:Nat} (h:k < l.length):l.getD k d ∈ l:=by
 rw [List.getD_eq_getElem?_getD,List.getElem?_eq_getElem h]
 exact List.getElem_mem h
end Go.Proofs.YtlpdfglbdijkoaaGreatDoor