/-
  Own texts, several in one (NearA, LenP, FrP, EqC).
-/
import Derived.Test.YtlpdfglbdijkoaaGreatDoorOwnRule6
import Derived.Test.YtlpdfglbdijkoaaGreatDoorOwnNear3
import Derived.Test.YtlpdfglbdijkoaaGreatDoorOwnSortU
import Derived.Test.YtlpdfglbdijkoaaGreatDoorOwnLine10
import Derived.Test.YtlpdfglbdijkoaaGreatDoorMrg27
import Derived.Test.YtlpdfglbdijkoaaGreatDoorOwnChkU
import Derived.Test.YtlpdfglbdijkoaaGreatDoorMrg22
namespace Go.Proofs.YtlpdfglbdijkoaaGreatDoor
open Go.RowKit
set_option linter.unusedVariables false
set_option linter.unusedSimpArgs false
theorem ztr (c:List Ac) (u kk:List Int) (cv uv kv:Value) (en:Int) (x:Sc.O) (vp vl:Value) (w:World) (hc:CsAt w cv c) (hu:NsAt .u16 w uv u) (hk:NsAt .i32 w kv kk) (hc0:0 < c.length) (hc1:c.length≤1000) (hu0:0 < u.length) (hu1:u.length≤1000) (hub:∀ z ∈ u,0≤z∧z≤65535) (hk0:0 < kk.length) (hk1:kk.length≤1000) (hx:x.ok) (hP:PosAt w vp x.parts) (hL:NsAt .u8 w vl x.long) :
  Calls Tryz.prog 11 #[.agg #[cv,uv,kv,.int .i32 en],.agg (ov x vp vl).toArray] w (NearOk w):=by
 rcases (show x.kind % 8 = 0∨x.kind % 8 = 1∨x.kind % 8 = 2∨x.kind % 8 = 3∨x.kind % 8 = 4∨x.kind % 8 = 5∨x.kind % 8 = 6∨x.kind % 8 = 7 by omega) with h | h | h | h | h | h | h | h
 ·exact near_0 c u kk cv uv kv en x vp vl w hc hu hk hc0 hc1 hu0 hu1 hub hk0 hk1 hx hP hL h
 ·exact near_1 c u kk cv uv kv en x vp vl w hc hu hk hc0 hc1 hu0 hu1 hub hk0 hk1 hx hP hL h
 ·exact near_2 c u kk cv uv kv en x vp vl w hc hu hk hc0 hc1 hu0 hu1 hub hk0 hk1 hx hP hL h
 ·exact near_3 c u kk cv uv kv en x vp vl w hc hu hk hc0 hc1 hu0 hu1 hub hk0 hk1 hx hP hL h
 ·exact near_4 c u kk cv uv kv en x vp vl w hc hu hk hc0 hc1 hu0 hu1 hub hk0 hk1 hx hP hL h
 ·exact near_5 c u kk cv uv kv en x vp vl w hc hu hk hc0 hc1 hu0 hu1 hub hk0 hk1 hx hP hL h
 ·exact near_6 c u kk cv uv kv en x vp vl w hc hu hk hc0 hc1 hu0 hu1 hub hk0 hk1 hx hP hL h
 ·exact near_7 c u kk cv uv kv en x vp vl w hc hu hk hc0 hc1 hu0 hu1 hub hk0 hk1 hx hP hL h
theorem zgp {l:List Ac} {n:Nat} (h:(getC l n).isSome = false):∀ x ∈ l,x.code ≠ n:=by
 intro x hx e
 have h2:getC l n = none:=by cases hg:getC l n with
  | none=>rfl
  | some y=>rw [hg] at h; cases h
 have:=List.find?_eq_none.1 h2 x hx
 exact this (by simp [e])
theorem zob (l:List Ac) (n:Nat):(dropC l n).length = (l.filter (fun y=>decide (y.code < n))).length + (l.filter (fun y=>decide (n < y.code))).length:=by
 unfold dropC
 induction l with
 | nil=>rfl
 | cons y r ih =>
  rcases Nat.lt_trichotomy y.code n with h | h | h
  ·rw [List.filter_cons_of_pos (by simp; omega),List.filter_cons_of_pos (by simpa using h),List.filter_cons_of_neg (by simp; omega),List.length_cons,List.length_cons,ih]; omega
  ·rw [List.filter_cons_of_neg (by simp [h]),List.filter_cons_of_neg (by simp; omega),List.filter_cons_of_neg (by simp; omega),ih]
  ·rw [List.filter_cons_of_pos (by simp; omega),List.filter_cons_of_neg (by simp; omega),List.filter_cons_of_pos (by simpa using h),List.length_cons,List.length_cons,ih]; omega
theorem zcc (l:List Ac) (x:Ac):(putC l x).length = (dropC l x.code).length + 1:=by
 rw [zob]
 unfold putC
 rw [List.length_append,List.length_cons]
 omega
theorem zgs {l:List Ac} {n:Nat} (h:∀ x ∈ l,x.code ≠ n):dropC l n = l:=List.filter_eq_self.2 fun x hx=>by simpa using h x hx
theorem zgr {l:List Ac} {n:Nat} (hr:AcRise l) (h:∃ x ∈ l,x.code = n):(dropC l n).length + 1 = l.length:=by
 obtain ⟨x,hx,e⟩:=h
 obtain ⟨i,hp⟩:=zqa l n hr
 obtain ⟨j,hj,rfl⟩:=List.getElem_of_mem hx
 have hg:(l.getD j ac0).code = n:=by rw [List.getD_eq_getElem?_getD,List.getElem?_eq_getElem hj]; exact e
 have hij:i = j:=by
  by_cases c:j < i
  ·have:=hp.2.1 j c; omega
  ·by_cases c2:i = j
   ·exact c2
   ·have h1:=hp.2.2 i (Nat.le_refl _) (by omega)
    have h2:=hr i j (by omega) hj
    omega
 subst hij
 have h1:=zls l { l[i] with code:=n } i hr hp hj hg
 have h2:=zcc l { l[i] with code:=n }
 rw [h1,List.length_set] at h2
 exact h2.symm
theorem zrw {l:List Ac} {n:Nat} {x:Ac} (h:x ∈ dropC l n):x ∈ l:=(List.mem_filter.1 h).1
theorem ztw {l:List Ac} {x y:Ac} (h:y ∈ l) (hn:y.code ≠ x.code):y ∈ putC l x:=by
 unfold putC
 rcases Nat.lt_or_gt_of_ne hn with h1 | h1
 ·exact List.mem_append.2 (.inl (List.mem_filter.2 ⟨h,by simpa using h1⟩))
 ·exact List.mem_append.2 (.inr (List.mem_cons.2 (.inr (List.mem_filter.2 ⟨h,by simpa using h1⟩))))
theorem zoh {l:List Int} {n:Int} (h:n ∉ l):dropU l n = l:=List.filter_eq_self.2 fun x hx=>by
 have:x ≠ n:=fun e=>h (e ▸ hx)
 simpa using this
theorem zkt (l:List Int) (n:Int):(dropU l n).length = (l.filter (fun y=>decide (y < n))).length + (l.filter (fun y=>decide (n < y))).length:=by
 unfold dropU
 induction l with
 | nil=>rfl
 | cons y r ih =>
  rcases Int.lt_trichotomy y n with h | h | h
  ·rw [List.filter_cons_of_pos (by simp; omega),List.filter_cons_of_pos (by simpa using h),List.filter_cons_of_neg (by simp; omega),List.length_cons,List.length_cons,ih]; omega
  ·rw [List.filter_cons_of_neg (by simp [h]),List.filter_cons_of_neg (by simp; omega),List.filter_cons_of_neg (by simp; omega),ih]
  ·rw [List.filter_cons_of_pos (by simp; omega),List.filter_cons_of_neg (by simp; omega),List.filter_cons_of_pos (by simpa using h),List.length_cons,List.length_cons,ih]; omega
theorem zfr (l:List Int) (x:Int):(putU l x).length = (dropU l x).length + 1:=by
 rw [zkt]
 unfold putU
 rw [List.length_append,List.length_cons]
 omega
theorem zgq {l:List Int} {n:Int} (hr:NRise l) (h:n ∈ l):(dropU l n).length + 1 = l.length:=by
 obtain ⟨i,hp⟩:=zkg l n hr
 obtain ⟨j,hj,e⟩:=List.getElem_of_mem h
 have hg:l.getD j 0 = n:=by rw [List.getD_eq_getElem?_getD,List.getElem?_eq_getElem hj]; exact e
 have hij:i = j:=by
  by_cases c:j < i
  ·have:=hp.2.1 j c; omega
  ·by_cases c2:i = j
   ·exact c2
   ·have h1:=hp.2.2 i (Nat.le_refl _) (by omega)
    have h2:=hr i j (by omega) hj
    omega
 subst hij
 have h1:=zlr l n i hr hp hj hg
 have h2:=zfr l n
 rw [h1] at h2
 exact h2.symm
theorem zjm {l:List Int} {n x:Int}:x ∈ dropU l n ↔ x ∈ l∧x ≠ n:=by
 unfold dropU
 rw [List.mem_filter]
 simp
def accN (o:RO):Int:=if o.kind = 3 then -1 else if o.kind = 4 then (o.parts.length:Int) - 1 else 0
theorem zid (x:Ac):∀ (ps:List (Nat × Int)) (out:List Ac),AcRise out→(∃ y ∈ out,y.code = x.code)→(splitG x out ps).1 = 0→(splitG x out ps).2.length + 1 = out.length + ps.length
 | [],out,hr,hx,h=>by
  show (dropC out x.code).length + 1 = _
  rw [zgr hr hx]
  rfl
 | q :: r,out,hr,hx,h=>by
  unfold splitG at h ⊢
  by_cases a:partOk q = false
  ·rw [if_pos a] at h; cases h
  ·rw [if_neg a] at h ⊢
   by_cases b:(getC out q.1).isSome
   ·rw [if_pos b] at h; cases h
   ·rw [if_neg b] at h ⊢
    have hno:=zgp (eq_false_of_ne_true b)
    obtain ⟨y,hy,he⟩:=hx
    have h1:=zid x r (putC out { x with code:=q.1 }) (zin _ hr) ⟨y,ztw hy (by show y.code ≠ q.1; exact hno y hy),he⟩ h
    rw [zcc] at h1
    have h2:dropC out ({ x with code:=q.1 }:Ac).code = out:=zgs hno
    rw [h2] at h1
    rw [List.length_cons]
    omega
theorem zoq (c:List Ac) (o:RO) (hr:AcRise c) (h:(chartN c o).1 = 0) (hk:o.kind = 0∨o.kind = 1∨o.kind = 2∨o.kind = 3∨o.kind = 4):((chartN c o).2.length:Int) = c.length + accN o:=by
 unfold chartN at h ⊢
 by_cases a:(getC c o.fr).isSome = false
 ·rw [if_pos a] at h; cases h
 rw [if_neg a] at h ⊢
 have a2:=eq_true_of_ne_false a
 obtain ⟨x,hx⟩:=Option.isSome_iff_exists.1 a2
 rw [hx] at h ⊢
 have hxc:x.code = o.fr:=zjg hx
 have hxm:∃ y ∈ c,y.code = x.code:=⟨x,List.mem_of_find?_eq_some hx,rfl⟩
 have hd:=zgr hr hxm
 show ((chartK c x o).2.length:Int) = _
 replace h:(chartK c x o).1 = 0:=h
 unfold chartK at h ⊢
 unfold accN
 by_cases k0:o.kind = 0
 ·rw [if_pos k0] at h ⊢
  rw [if_neg (by omega),if_neg (by omega)]
  unfold renumberN at h ⊢
  by_cases b:(getC c o.too).isSome
  ·rw [if_pos b] at h; cases h
  rw [if_neg b]
  show ((moveC _ _ _).length:Int) = _
  rw [zfu,zcc]
  have hno:=zgp (eq_false_of_ne_true b)
  have h2:dropC (dropC c x.code) ({ x with code:=o.too }:Ac).code = dropC c x.code:=zgs fun y hy=>hno y (zrw hy)
  rw [h2]
  omega
 rw [if_neg k0] at h ⊢
 by_cases k1:o.kind = 1
 ·rw [if_pos k1]
  rw [if_neg (by omega),if_neg (by omega)]
  show ((putC _ _).length:Int) = _
  rw [zcc]
  show (((dropC c x.code).length + 1:Nat):Int) = _
  omega
 rw [if_neg k1] at h ⊢
 by_cases k2:o.kind = 2
 ·rw [if_pos k2]
  rw [if_neg (by omega),if_neg (by omega)]
  show ((putC _ _).length:Int) = _
  rw [zcc]
  show (((dropC c x.code).length + 1:Nat):Int) = _
  omega
 rw [if_neg k2] at h ⊢
 by_cases k3:o.kind = 3
 ·rw [if_pos k3] at h ⊢
  rw [if_pos k3]
  unfold mergeN at h ⊢
  by_cases b1:x.code = o.too
  ·rw [if_pos b1] at h; cases h
  rw [if_neg b1] at h ⊢
  by_cases b2:(getC c o.too).isSome = false
  ·rw [if_pos b2] at h; cases h
  rw [if_neg b2] at h ⊢
  by_cases b3:x.kind ≠ ((getC c o.too).getD ac0).kind
  ·rw [if_pos b3] at h; cases h
  rw [if_neg b3] at h ⊢
  by_cases b4:0 < (kidsC c x.code).length
  ·rw [if_pos b4] at h; cases h
  rw [if_neg b4]
  show ((dropC c x.code).length:Int) = _
  omega
 rw [if_neg k3] at h ⊢
 have k4:o.kind = 4:=by omega
 rw [if_neg k3,if_pos k4]
 unfold splitN at h ⊢
 by_cases b1:0 < (kidsC c x.code).length
 ·rw [if_pos b1] at h; cases h
 rw [if_neg b1] at h ⊢
 by_cases b2:o.parts.length < 1∨8 < o.parts.length
 ·rw [if_pos b2] at h; cases h
 rw [if_neg b2] at h ⊢
 have:=zid x o.parts c hr hxm h
 omega
theorem znb (u:List Int) (o:RO) (hr:NRise u) (h:(unitN u o).1 = 0) (hk:o.kind = 5∨o.kind = 6):((unitN u o).2.length:Int) = u.length + if o.kind = 6 then -1 else 0:=by
 unfold unitN at h ⊢
 by_cases b1:999 < o.fr∨999 < o.too
 ·rw [if_pos b1] at h; cases h
 rw [if_neg b1] at h ⊢
 by_cases b2:(o.fr:Int) ∉ u
 ·rw [if_pos b2] at h; cases h
 rw [if_neg b2] at h ⊢
 have hf:(o.fr:Int) ∈ u:=Decidable.not_not.1 b2
 have hd:=zgq hr hf
 by_cases b3:o.kind = 6∧o.fr = o.too
 ·rw [if_pos b3] at h; cases h
 rw [if_neg b3] at h ⊢
 by_cases b4:o.kind = 6∧(o.too:Int) ∉ u
 ·rw [if_pos b4] at h; cases h
 rw [if_neg b4] at h ⊢
 by_cases b5:o.kind = 5∧(o.too:Int) ∈ u
 ·rw [if_pos b5] at h; cases h
 rw [if_neg b5]
 show ((putU _ _).length:Int) = _
 rw [zfr]
 rcases hk with k | k
 ·rw [if_neg (by omega)]
  have hno:(o.too:Int) ∉ u:=fun e=>b5 ⟨k,e⟩
  rw [zoh (fun e=>hno (zjm.1 e).1)]
  omega
 ·rw [if_pos k]
  have hin:(o.too:Int) ∈ u:=Decidable.not_not.1 fun e=>b4 ⟨k,e⟩
  have hne:(o.too:Int) ≠ (o.fr:Int):=fun e=>b3 ⟨k,by omega⟩
  have:=zgq (zdr (o.fr:Int) hr) (zjm.2 ⟨hin,hne⟩)
  omega
theorem keeps (f:Fr) (s:Sp) (o:RO) (hrc:AcRise f.c) (hru:NRise f.u) (h:(nextN f s o).1 = 0) :
  0≤o.kind∧o.kind < 8∧(o.kind ≠ 5→o.kind ≠ 6→(nextN f s o).2.u = f.u)∧(o.kind ≠ 7→(nextN f s o).2.k = f.k∧(nextN f s o).2.e = f.e)∧(o.kind = 5∨o.kind = 6∨o.kind = 7→(nextN f s o).2.c = f.c) ∧
   ((nextN f s o).2.c.length:Int) = f.c.length + accN o∧((nextN f s o).2.u.length:Int) = f.u.length + if o.kind = 6 then -1 else 0:=by
 unfold nextN at h ⊢
 by_cases b:o.kind < 0∨8≤o.kind
 ·rw [if_pos b] at h; cases h
 rw [if_neg b] at h ⊢
 have hfin:(finN (opN f o).1 (opN f o).2 s).2 = (opN f o).2∧(opN f o).1 = 0:=by
  unfold finN at h ⊢
  by_cases c1:(opN f o).1 ≠ 0
  ·rw [if_pos c1] at h; exact absurd h c1
  rw [if_neg c1] at h ⊢
  by_cases c2:checkF (opN f o).2 ≠ 0
  ·rw [if_pos c2] at h; exact absurd h c2
  rw [if_neg c2] at h ⊢
  split at h
  ·cases h
  ·rename_i c3
   rw [if_neg c3]
   exact ⟨rfl,Decidable.not_not.1 c1⟩
 rw [hfin.1]
 refine ⟨by omega,by omega,?_⟩
 have h0:=hfin.2
 unfold opN at h0 ⊢
 unfold accN
 by_cases k7:o.kind = 7
 ·rw [if_pos k7]
  exact ⟨fun _ _=>rfl,fun e=>absurd k7 e,fun _=>rfl,by rw [if_neg (by omega),if_neg (by omega)]; simp,by rw [if_neg (by omega)]; simp⟩
 rw [if_neg k7] at h0 ⊢
 by_cases k56:o.kind = 5∨o.kind = 6
 ·rw [if_pos k56] at h0 ⊢
  exact ⟨fun a b=>absurd k56 (by omega),fun _=>⟨rfl,rfl⟩,fun _=>rfl,by rw [if_neg (by omega),if_neg (by omega)]; simp,znb f.u o hru h0 k56⟩
 ·rw [if_neg k56] at h0 ⊢
  have:=zoq f.c o hrc h0 (by omega)
  unfold accN at this
  exact ⟨fun _ _=>rfl,fun _=>⟨rfl,rfl⟩,fun e=>absurd e (by omega),this,by rw [if_neg (by omega)]; simp⟩
theorem ztp (f:Fr) (s:Sp) (o:RO) (h:(nextN f s o).1 ≠ 0):(nextN f s o).2 = fr0:=by
 unfold nextN at h ⊢
 by_cases b:o.kind < 0∨8≤o.kind
 ·rw [if_pos b]
 rw [if_neg b] at h ⊢
 unfold finN at h ⊢
 repeat' split
 all_goals (first | rfl | skip)
 rename_i c1 c2 c3
 rw [if_neg c1,if_neg c2,if_neg c3] at h
 exact absurd rfl h
def frOf (l:List A6) (lu:List Int) (first:Int) (long:List Int):Fr:=⟨chartOf l,unitsOf lu,startsOf first long,endOf first long⟩
theorem ziy (out:List Ac) (c:Nat) (x:A6):(new6 out c x).code = c + (1 + x.code % 4):=by
 unfold new6
 split <;> rfl
theorem zqp (out:List Ac) (c:Nat) (x:A6):(new6 out c x).name = ⟨(Sc.name6 x.name).toArray⟩:=by
 unfold new6
 split <;> rfl
theorem zmd (l:List A6) (x:A6):mk6 (l ++ [x]) = st6 (mk6 l) x:=by unfold mk6; rw [List.foldl_append]; rfl
theorem zlo {α:Type} (P:List α→Prop) (h0:P []) (h1:∀ l x,P l→P (l ++ [x])) (l:List α):P l:=by
 have h:∀ n (l:List α),l.length = n→P l:=fun n=>by
  induction n with
  | zero=>intro l hl; rw [List.length_eq_zero_iff.1 hl]; exact h0
  | succ n ih =>
   intro l hl
   have hne:l ≠ []:=fun e=>by rw [e] at hl; cases hl
   rw [← List.dropLast_concat_getLast hne]
   exact h1 _ _ (ih _ (by rw [List.length_dropLast]; omega))
 exact h _ l rfl
theorem zqz (l:List A6):(mk6 l).1.Pairwise (fun x y=>x.code < y.code)∧∀ y ∈ (mk6 l).1,1≤y.code∧y.code≤(mk6 l).2:=by
 refine zlo (fun l=>(mk6 l).1.Pairwise (fun x y=>x.code < y.code)∧∀ y ∈ (mk6 l).1,1≤y.code∧y.code≤(mk6 l).2) ⟨List.Pairwise.nil,fun y hy=>nomatch hy⟩ (fun l x ih=>?_) l
 show (mk6 (l ++ [x])).1.Pairwise _∧∀ y ∈ (mk6 (l ++ [x])).1,1≤y.code∧y.code≤(mk6 (l ++ [x])).2
 rw [zmd]
 unfold st6
 refine ⟨List.pairwise_append.2 ⟨ih.1,List.pairwise_singleton _ _,fun a ha b hb=>?_⟩,fun y hy=>?_⟩
 ·rw [List.mem_singleton.1 hb,ziy]
  have:=(ih.2 a ha).2
  omega
 ·show 1≤y.code∧y.code≤(mk6 l).2 + (1 + x.code % 4)
  rcases List.mem_append.1 hy with hy | hy
  ·have:=ih.2 y hy; omega
  ·rw [List.mem_singleton.1 hy,ziy]; omega
theorem zqy (l:List A6):∀ y ∈ (mk6 l).1,∃ n,y.name = ⟨(Sc.name6 n).toArray⟩:=by
 refine zlo (fun l=>∀ y ∈ (mk6 l).1,∃ n,y.name = ⟨(Sc.name6 n).toArray⟩) (fun y hy=>nomatch hy) (fun l x ih=>?_) l
 intro y hy
 rw [zmd] at hy
 rcases List.mem_append.1 hy with hy | hy
 ·exact ih y hy
 ·rw [List.mem_singleton.1 hy]; exact ⟨_,zqp _ _ _⟩
theorem zjr (l:List A6):AcRise (chartOf l):=by
 unfold chartOf
 split
 ·intro i j hij hj
  simp at hj
  omega
 ·exact zdc (zqz l).1
theorem zho (l:List A6):nameIn 1000 (chartOf l):=by
 unfold chartOf
 split
 ·intro x hx
  rw [List.mem_singleton.1 hx]
  show 4≤1000
  omega
 ·intro x hx
  obtain ⟨n,hn⟩:=zqy l x hx
  rw [hn]
  have:=Sc.name6_len n
  show (Sc.name6 n).toArray.size≤1000
  simp
  omega
theorem zia (l:List Int):NRise (unitsOf l):=by
 unfold unitsOf
 split
 ·intro i j hij hj
  simp at hj
  omega
 ·refine zlp ?_
  have h1:=zgi (mk7 l)
  have hp:(srt (mk7 l)).Perm (mk7 l):=List.mergeSort_perm _ _
  have h2:(srt (mk7 l)).Nodup:=hp.nodup_iff.2 (zja l).1
  exact (h1.and h2).imp fun {a b} h=>by omega
theorem zic (first:Int) (long:List Int):0 < (startsOf first long).length∧(startsOf first long).length≤13:=by
 unfold startsOf Sc.mkStarts
 rw [List.length_map,List.length_range]
 omega
theorem frok_at {B:Nat} {c:List Ac} {u k:List Int} {w:World} {cv uv kv:Value} (h:FrOk B c u k w cv uv kv) (e:Int):FrAt w cv uv kv ⟨c,u,k,e⟩:=⟨CsAt.of_own h.1,(NsAt.of_own h.2.1).1,(NsAt.of_own h.2.2).1⟩
set_option maxHeartbeats 2000000 in
set_option maxRecDepth 100000 in
theorem zea (v1 v2:Value) (l:List Ac) (w:World) (h1:CsAt w v1 l) (h2:CsAt w v2 l) (hl:l.length≤1000000) :
  Calls Tryz.prog 16 #[v1,v2] w fun e w'=>e = .returned (.bool true)∧Below w.heap.size w w':=by
 obtain ⟨p1,c1,rfl,h1⟩:=h1
 obtain ⟨p2,c2,rfl,h2⟩:=h2
 have H1:=hdq h1
 have H2:=hdq h2
 have HL:=hdq hl
 clear h1 h2 hl
 go_enter Tryz.func16,Tryz.ntmps16
 go_wp2_with fail
 go_loopw [13] (fun i wr=>∃ k:Nat,k≤l.length∧i = .int .i64 k∧Below w.heap.size w wr) (fun i _=>l.length - (intOf i).toNat)
 case atStart=>exact ⟨0,by omega,rfl,Below.refl _ _⟩
 case round =>
 obtain ⟨k,hk,rfl,BB⟩:=hrel
 have HBB:=hdq BB
 clear BB
 by_cases hlt:k < l.length
 ·have hk1:(0:Int)≤(k:Int):=by omega
  have hk2:(k:Int) < (l.length:Int):=by omega
  obtain ⟨b1,o1,rfl,e1⟩:=zdq H1.out hlt
  obtain ⟨b2,o2,rfl,e2⟩:=zdq H2.out hlt
  obtain ⟨x,hx⟩:∃ x,x = l.getD k ac0:=⟨_,rfl⟩
  have e1k:=e1 k hlt
  have e2k:=e2 k hlt
  rw [← hx] at e1k e2k
  have d0:∀ n:QW (fun w'=>Below wr.heap.size wr w'),n.w.cell? ⟨b1,o1 + k * 4,none⟩ = some (.int .u32 (x.code:Int)):=fun n=>zah (zah e1k HBB.out) n.h 0 _ rfl
  have d1:∀ n:QW (fun w'=>Below wr.heap.size wr w'),n.w.cell? ⟨b1,o1 + k * 4 + 1,none⟩ = some (.string x.name):=fun n=>zah (zah e1k HBB.out) n.h 1 _ rfl
  have d2:∀ n:QW (fun w'=>Below wr.heap.size wr w'),n.w.cell? ⟨b1,o1 + k * 4 + 2,none⟩ = some (.int .u8 (x.kind:Int)):=fun n=>zah (zah e1k HBB.out) n.h 2 _ rfl
  have d3:∀ n:QW (fun w'=>Below wr.heap.size wr w'),n.w.cell? ⟨b1,o1 + k * 4 + 3,none⟩ = some (.int .u32 (x.par:Int)):=fun n=>zah (zah e1k HBB.out) n.h 3 _ rfl
  have f0:∀ n:QW (fun w'=>Below wr.heap.size wr w'),n.w.cell? ⟨b2,o2 + k * 4,none⟩ = some (.int .u32 (x.code:Int)):=fun n=>zah (zah e2k HBB.out) n.h 0 _ rfl
  have f1:∀ n:QW (fun w'=>Below wr.heap.size wr w'),n.w.cell? ⟨b2,o2 + k * 4 + 1,none⟩ = some (.string x.name):=fun n=>zah (zah e2k HBB.out) n.h 1 _ rfl
  have f2:∀ n:QW (fun w'=>Below wr.heap.size wr w'),n.w.cell? ⟨b2,o2 + k * 4 + 2,none⟩ = some (.int .u8 (x.kind:Int)):=fun n=>zah (zah e2k HBB.out) n.h 2 _ rfl
  have f3:∀ n:QW (fun w'=>Below wr.heap.size wr w'),n.w.cell? ⟨b2,o2 + k * 4 + 3,none⟩ = some (.int .u32 (x.par:Int)):=fun n=>zah (zah e2k HBB.out) n.h 3 _ rfl
  have HLT:=hdq hlt
  clear e1 e2 e1k e2k hx hlt
  go_wp2_with fail
  refine zbj (fun w'=>Below wr.heap.size wr w') (by kernel_rfl) (by kernel_rfl) (zat (Below.refl _ _)) (fun hne=>?_)
  repeat (go_big_quiet_step (fail))
  refine wpQuiet_nil ?_
  intro _ hw'
  obtain ⟨⟨wy,S⟩,rfl⟩:=hw'
  clear d0 f0 d1 f1 d2 f2 d3 f3
  have ev:IntKind.i64.wrap ((k:Int) + 1) = ((k + 1:Nat):Int):=by have:=HL.out; have:=HLT.out; rw [IntKind.wrap_i64]; omega
  go_wp2_with fail
  exact ⟨⟨k + 1,by have:=HLT.out; omega,rfl,zab HBB.out S⟩,by have:=HLT.out; simp [intOf]; omega⟩
 ·obtain rfl:k = l.length:=by omega
  have hk0:¬ ((l.length:Int) < (l.length:Int)):=by omega
  go_wp2
  go_ret
  exact ⟨rfl,HBB.out⟩
end Go.Proofs.YtlpdfglbdijkoaaGreatDoor