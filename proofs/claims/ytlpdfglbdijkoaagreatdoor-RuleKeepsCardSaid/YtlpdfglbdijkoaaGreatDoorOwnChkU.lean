/-
  Own texts, several in one (ChkU, CalN, FrN, Rule1).
-/
import Derived.Test.YtlpdfglbdijkoaaGreatDoorOwnKeepC
import Derived.Test.YtlpdfglbdijkoaaGreatDoorMrg14
import Derived.Test.YtlpdfglbdijkoaaGreatDoorMrg19
import Derived.Test.YtlpdfglbdijkoaaGreatDoorOwnGet6
namespace Go.Proofs.YtlpdfglbdijkoaaGreatDoor
open Go.RowKit
set_option linter.unusedVariables false
set_option linter.unusedSimpArgs false
def codeU (n:Int):Bool:=decide (1≤n∧n≤999)
def u1 (l:List Int) (i:Nat):Nat:=if codeU (l.getD i 0) = false then 5 else if 0 < i∧l.getD i 0≤l.getD (i - 1) 0 then 6 else 0
def checkU (l:List Int):Nat:=if 40 < l.length then 2 else firstE (u1 l) l.length
theorem zvd {l:List Int} {k e:Nat} (h2:¬ 40 < l.length) (hk:k < l.length) (h0:firstE (u1 l) k = 0) (he:u1 l k = e) (hn:e ≠ 0):checkU l = e:=by
 have:=zcv h0 (by rw [he]; exact hn) hk
 unfold checkU
 rw [if_neg h2,this,he]
set_option maxHeartbeats 1000000 in
theorem zsc (n:Int) (w:World):Calls Tryz.prog 69 #[.int .u16 n] w fun e w'=>e = .returned (.bool (codeU n))∧w' = w:=by
 by_cases h1:1≤n
 ·by_cases h2:n≤999
  ·have e:codeU n = true:=decide_eq_true ⟨h1,h2⟩
   rw [e]
   clear e
   go_enter Tryz.func69,Tryz.ntmps69
   go_wp2
   go_ret
   exact ⟨rfl,rfl⟩
  ·have e:codeU n = false:=decide_eq_false fun h=>h2 h.2
   rw [e]
   clear e
   go_enter Tryz.func69,Tryz.ntmps69
   go_wp2
   go_ret
   exact ⟨rfl,rfl⟩
 ·have e:codeU n = false:=decide_eq_false fun h=>h1 h.1
  rw [e]
  clear e
  go_enter Tryz.func69,Tryz.ntmps69
  go_wp2
  go_ret
  exact ⟨rfl,rfl⟩
set_option maxHeartbeats 8000000 in
set_option maxRecDepth 100000 in
theorem zoo (v:Value) (l:List Int) (w:World) (hN:NsAt .u16 w v l) (hl:l.length≤100000) :
  Calls Tryz.prog 38 #[v] w fun e w'=>e = .returned (.int .i64 (checkU l:Int))∧Below w.heap.size w w':=by
 obtain ⟨E,hEE⟩:∃ E,E = checkU l:=⟨_,rfl⟩
 rw [← hEE]
 have HEE:=hdq hEE
 obtain ⟨p,cap,rfl,hc⟩:=hN
 have HC:=hdq hc
 have HL:=hdq hl
 clear hEE hc hl
 by_cases h40:40 < l.length
 ·have i2:(40:Int) < (l.length:Int):=by omega
  have e2:E = 2:=by rw [HEE.out]; unfold checkU; rw [if_pos h40]
  subst e2
  clear h40
  go_enter Tryz.func38,Tryz.ntmps38
  go_wp2_with fail
  go_ret
  exact ⟨rfl,Below.refl _ _⟩
 have i2:¬ (40:Int) < (l.length:Int):=by omega
 have H40:=hdq h40
 clear h40
 go_enter Tryz.func38,Tryz.ntmps38
 go_wp2_with fail
 clear i2
 go_loopw [10] (fun iv wr=>∃ k:Nat,k≤l.length∧iv = .int .i64 (k:Int)∧firstE (u1 l) k = 0∧Below w.heap.size w wr) (fun iv _=>l.length - (intOf iv).toNat)
 case atStart=>exact ⟨0,by omega,rfl,rfl,Below.refl _ _⟩
 case round =>
  obtain ⟨k,hk,rfl,h0,BB⟩:=hrel
  have H0:=hdq h0
  have HB:=hdq BB
  clear h0 BB
  by_cases hlt:k < l.length
  ·have i0:(0:Int)≤(k:Int):=by omega
   have i1:(k:Int) < (l.length:Int):=by omega
   have HLT:=hdq hlt
   have e5:IntKind.i64.wrap ((k:Int) + 1) = (k:Int) + 1:=by rw [IntKind.wrap_i64]; have:=HL.out; omega
   obtain ⟨b,off,rfl,hcc⟩:∃ b off,p = some ⟨b,off,none⟩∧∀ i,i < l.length→w.cell? ⟨b,off + i,none⟩ = some (.int .u16 (l.getD i 0)):=by
    rcases HC.out with h | h
    ·exact absurd hlt (by rw [h]; simp)
    ·exact h
   have HCC:=hdq fun j hj=>zae (hcc j hj) HB.out
   have c0:=HCC.out k hlt
   obtain ⟨x,hx⟩:∃ x,x = l.getD k 0:=⟨_,rfl⟩
   have V5:codeU x = false→E = 5:=fun h=>by rw [HEE.out]; exact zvd H40.out HLT.out H0.out (by unfold u1; rw [← hx,if_pos h]) (by omega)
   have V6:codeU x = true→(0 < k∧x≤l.getD (k - 1) 0)→E = 6:=fun h h1=>by rw [HEE.out]; exact zvd H40.out HLT.out H0.out (by unfold u1; rw [← hx,if_neg (by rw [h]; decide),if_pos h1]) (by omega)
   have V0:codeU x = true→¬ (0 < k∧x≤l.getD (k - 1) 0)→firstE (u1 l) (k + 1) = 0:=fun h h1=>by rw [zbw H0.out]; unfold u1; rw [← hx,if_neg (by rw [h]; decide),if_neg h1]
   rw [← hx] at c0
   have HV5:=hdq V5
   have HV6:=hdq V6
   have HV0:=hdq V0
   clear V5 V6 V0 hcc hx hlt hk
   go_wp2_with fail
   refine (zsc x _).mono ?_
   rintro _ _ ⟨rfl,rfl⟩
   by_cases q1:codeU x = false
   ·have hv:=HV5.out q1
    subst hv
    rw [q1]
    clear q1
    go_wp2_with fail
    go_ret
    exact ⟨rfl,HB.out⟩
   have q1:codeU x = true:=by simpa using q1
   have Q1:=hdq q1
   rw [q1]
   clear q1 c0 i1
   by_cases hk0:k = 0
   ·have Q2:Hid (¬ (0 < k∧x≤l.getD (k - 1) 0)):=hdq fun h=>by omega
    have g0:decide ((0:Int) < (k:Int)) = false:=decide_eq_false (by omega)
    have g00:decide (0 < k) = false:=decide_eq_false (by omega)
    clear hk0
    go_wp2_with fail
    exact ⟨⟨k + 1,by have:=HLT.out; omega,by simp,HV0.out Q1.out Q2.out,HB.out⟩,by have:=HLT.out; simp [intOf]; omega⟩
   ·obtain ⟨j,hj⟩:∃ j,j + 1 = k:=⟨k - 1,by omega⟩
    obtain ⟨y,hy⟩:∃ y,y = l.getD j 0:=⟨_,rfl⟩
    have hjl:j < l.length:=by have:=HLT.out; omega
    have y0:=HCC.out j hjl
    rw [← hy] at y0
    have hk1:k - 1 = j:=by omega
    rw [hk1,← hy] at HV6 HV0
    have g0:decide ((0:Int) < (k:Int)) = true:=decide_eq_true (by omega)
    have g00:decide (0 < k) = true:=decide_eq_true (by omega)
    have g1:IntKind.i64.wrap ((k:Int) - 1) = (j:Int):=by rw [IntKind.wrap_i64]; have:=HL.out; omega
    have g2:(0:Int)≤(j:Int):=by omega
    have g3:(j:Int) < (l.length:Int):=by omega
    have GK:=hdq (show 0 < k by omega)
    clear hy hk1 hj hk0 hjl
    by_cases q2:x≤y
    ·have hv:=HV6.out Q1.out ⟨GK.out,q2⟩
     have z2:decide (x≤y) = true:=decide_eq_true q2
     subst hv
     clear q2
     go_wp2_with fail
     go_ret
     exact ⟨rfl,HB.out⟩
    have Q2:Hid (¬ (0 < k∧x≤y)):=hdq fun h=>q2 h.2
    have z2:decide (x≤y) = false:=decide_eq_false q2
    clear q2
    go_wp2_with fail
    exact ⟨⟨k + 1,by have:=HLT.out; omega,by simp,HV0.out Q1.out Q2.out,HB.out⟩,by have:=HLT.out; simp [intOf]; omega⟩
  ·have i1:¬ (k:Int) < (l.length:Int):=by omega
   obtain rfl:k = l.length:=by omega
   have hv:E = 0:=by rw [HEE.out]; unfold checkU; rw [if_neg H40.out,H0.out]
   subst hv
   clear hlt hk
   go_wp2_with fail
   go_ret
   exact ⟨rfl,HB.out⟩
def dayOk (n:Int):Bool:=decide (-719162≤n∧n < 2932897)
def k1 (l:List Int) (i:Nat):Nat:=if dayOk (l.getD i 0) = false then 13 else if 0 < i∧l.getD i 0≤l.getD (i - 1) 0 then 6 else 0
def checkK (xs:List Int) (en:Int):Nat:=if xs.length < 1∨60 < xs.length then 2 else firstE (k1 (xs ++ [en])) (xs.length + 1)
theorem zkx (n:Int) (w:World) (hM:Glb5 w) :
  Calls Tryz.prog 71 #[.int .i32 n] w fun e w'=>∃ s:ByteArray,e = .returned (.string s)∧(dayOk n = true→¬ s = ⟨#[]⟩)∧(dayOk n = false→s = ⟨#[]⟩)∧Below w.heap.size w w':=by
 by_cases h:-719162≤n∧n < 2932897
 ·obtain ⟨y,h1,h2,h3,h4⟩:=Dy.year_ex n h
  refine (zdg n y ⟨h1,h2⟩ h3 h4 w hM).mono ?_
  rintro _ w' ⟨rfl,hb⟩
  refine ⟨_,rfl,fun _ e=>?_,fun e=>?_,hb⟩
  ·have e2:=congrArg (fun b:ByteArray=>b.data.toList) e
   simp [dayT] at e2
  ·rw [dayOk,decide_eq_true h] at e; cases e
 ·refine (zjl n (by omega) w).mono ?_
  rintro _ w' ⟨rfl,rfl⟩
  exact ⟨_,rfl,fun e=>absurd (of_decide_eq_true e) h,fun _=>rfl,Below.refl _ _⟩
theorem chk_k1 {xs:List Int} {en:Int} {k e:Nat} (h2:¬ (xs.length < 1∨60 < xs.length)) (hk:k < xs.length + 1) (h0:firstE (k1 (xs ++ [en])) k = 0) (he:k1 (xs ++ [en]) k = e) (hn:e ≠ 0):checkK xs en = e:=by
 have:=zcv h0 (by rw [he]; exact hn) hk
 unfold checkK
 rw [if_neg h2,this,he]
def CalN (w0:World) (x b off cp:Nat) (xs:List Int) (en:Int) (L:Nat→Bool) (V:Nat→Value) (w':World):Prop :=
 Below w0.heap.size w0 w'∧(L 0 = true→V 0 = .pointer (some ⟨x,0,none⟩))∧(L 1 = true→V 1 = .slice (some ⟨b,off,none⟩) xs.length cp)∧(L 2 = true→L 6 = false→w'.ownsRow w0.heap.size 37 1 (V 2) xs.length (nv .i32 xs))∧(L 3 = true→V 3 = .pointer (some ⟨x,1,none⟩))∧(L 4 = true→V 4 = .int .i32 en)∧(L 5 = true→L 6 = false→∃ g,V 5 = .slice (some ⟨g,0,none⟩) 1 1∧w0.heap.size≤g∧Row w' g #[.int .i32 en] 37)∧(L 6 = true→w'.ownsRow w0.heap.size 37 1 (V 6) (xs.length + 1) (nv .i32 (xs ++ [en])))∧(L 7 = true→L 6 = true∧V 7 = V 6)
set_option maxHeartbeats 8000000 in
set_option maxRecDepth 100000 in
theorem zop (v:Value) (xs:List Int) (en:Int) (w:World) (hN:NsAt .i32 w v xs) (hG:Glb5 w) :
  Calls Tryz.prog 39 #[.agg #[v,.int .i32 en]] w fun e w'=>e = .returned (.int .i64 (checkK xs en:Int))∧Below w.heap.size w w':=by
 obtain ⟨E,hEE⟩:∃ E,E = checkK xs en:=⟨_,rfl⟩
 rw [← hEE]
 have HEE:=hdq hEE
 obtain ⟨p,cp,rfl,hc⟩:=hN
 clear hEE
 have BW:=zaa (Below.refl _ w) (.cells #[.slice p xs.length cp,.int .i32 en] 39)
 have HBW:=hdq BW
 by_cases h1:xs.length < 1
 ·have i1:(xs.length:Int) < 1:=by omega
  have e2:E = 2:=by rw [HEE.out]; unfold checkK; rw [if_pos (.inl h1)]
  subst e2
  clear h1 hc hG BW
  go_enter Tryz.func39,Tryz.ntmps39
  go_wp2_with fail
  go_ret
  exact ⟨rfl,HBW.out⟩
 have i1:¬ (xs.length:Int) < 1:=by omega
 by_cases h60:60 < xs.length
 ·have i2:(60:Int) < (xs.length:Int):=by omega
  have e2:E = 2:=by rw [HEE.out]; unfold checkK; rw [if_pos (.inr h60)]
  subst e2
  clear h60 h1 hc hG BW
  go_enter Tryz.func39,Tryz.ntmps39
  go_wp2_with fail
  go_ret
  exact ⟨rfl,HBW.out⟩
 have i2:¬ (60:Int) < (xs.length:Int):=by omega
 have H60:=hdq (show ¬ (xs.length < 1∨60 < xs.length) by omega)
 have RX:=Row.new w #[.slice p xs.length cp,.int .i32 en] 39
 have HG:=hdq (hG.below BW)
 obtain ⟨b,off,rfl,hcc⟩:∃ b off,p = some ⟨b,off,none⟩∧∀ i,i < xs.length→w.cell? ⟨b,off + i,none⟩ = some (.int .i32 (xs.getD i 0)):=by
  rcases hc with h | h
  ·exact absurd (by rw [h]; simp) h1
  ·exact h
 have HC0:=hdq fun i hi=>zae (hcc i hi) BW
 have x0:(w.alloc (.cells #[.slice (some ⟨b,off,none⟩) xs.length cp,.int .i32 en] 39)).cell? ⟨w.heap.size,0,none⟩ = some (.slice (some ⟨b,off,none⟩) xs.length cp):=RX.cell 0
 clear hc hcc hG BW h1 h60
 go_enter Tryz.func39,Tryz.ntmps39
 go_wp2_with fail
 clear i1 i2
 generalize w.alloc (.cells #[.slice (some ⟨b,off,none⟩) xs.length cp,.int .i32 en] 39) = w0 at *
 have HXL:=hdq (Nat.le_of_lt RX.lt)
 obtain ⟨x,hxe⟩:∃ x,x = w.heap.size:=⟨_,rfl⟩
 rw [← hxe] at RX x0 ⊢
 clear hxe
 have HB0:Hid (∀ wx,Below w0.heap.size w0 wx→∀ i,i < xs.length→wx.cell? ⟨b,off + i,none⟩ = some (.int .i32 (xs.getD i 0))):=hdq fun wx J i hi=>zae (HC0.out i hi) J
 clear x0
 refine zcn (n:=8) (by kernel_rfl) (CalN w0 x b off cp xs en) (by kernel_rfl) ?_ ?_ rfl ?_
 ·refine ⟨zat (Below.refl _ _),?_,?_,?_,?_,?_,?_,?_,?_⟩ <;> (intro h; simp at h)
 ·intro i o ho
  rcases i with _ | _ | _ | _ | _ | _ | _ | _ | i
  all_goals (first | (simp at ho; done) | (obtain rfl:=Option.some.inj ho))
  all_goals (rintro L V wx hL hpre ⟨J,K0,K1,K2,K3,K4,K5,A6,A7⟩ a hdef hev hold)
  ·have X1:a.tmps[1]?.getD undef = .pointer (some ⟨x,0,none⟩):=by
    have h:=hold 1 (by simp) (by intro j hj; rcases j with _ | _ | _ | _ | _ | _ | _ | _ | j <;> simp [dstAt])
    simpa [go_sem] using h
   exact zbf ho rfl (v:=.pointer (some ⟨x,0,none⟩)) (by go_simp) ⟨J,by simp [updV],by simpa [Upd,updV] using K1,by simpa [Upd,updV] using K2,by simpa [Upd,updV] using K3,by simpa [Upd,updV] using K4,by simpa [Upd,updV] using K5,by simpa [Upd,updV] using A6,by simpa [Upd,updV] using A7⟩
  ·have p0:=hpre 0 (by decide)
   have E0:=(hev 0 16 p0 rfl (by simp) (by simp)).trans (K0 p0)
   have e0:a.tmps[16]?.getD undef = .pointer (some ⟨x,0,none⟩):=by simpa [go_sem] using E0
   have c0:wx.cell? ⟨x,0,none⟩ = some (.slice (some ⟨b,off,none⟩) xs.length cp):=(RX.below J).cell 0
   exact zbf ho rfl (v:=.slice (some ⟨b,off,none⟩) xs.length cp) (by go_simp) ⟨J,by simpa [Upd,updV] using K0,by simp [updV],by simpa [Upd,updV] using K2,by simpa [Upd,updV] using K3,by simpa [Upd,updV] using K4,by simpa [Upd,updV] using K5,by simpa [Upd,updV] using A6,by simpa [Upd,updV] using A7⟩
  ·have p1:=hpre 1 (by decide)
   have E1:=(hev 1 17 p1 rfl (by simp) (by simp)).trans (K1 p1)
   have e1:a.tmps[17]?.getD undef = .slice (some ⟨b,off,none⟩) xs.length cp:=by simpa [go_sem] using E1
   refine zfm ho rfl rfl Tryz.func70 (by kernel_rfl) rfl #[.slice (some ⟨b,off,none⟩) xs.length cp] (by simp [E1]) ((zjo b off xs.length cp xs wx (HB0.out wx J) rfl (by have:=H60.out; omega)).mono ?_)
   rintro _ wy ⟨v,rfl,ho2,hb⟩
   exact ⟨_,rfl,⟨zab J hb,by simpa [Upd,updV] using K0,by simpa [Upd,updV] using K1,fun _ _=>by simpa [updV] using ownMono ho2 J.size,by simpa [Upd,updV] using K3,by simpa [Upd,updV] using K4,fun h1 h2=>by obtain ⟨g,e1,e2,R⟩:=K5 (by simpa [Upd] using h1) (by simpa [Upd] using h2); exact ⟨g,by simpa [updV] using e1,e2,R.below hb⟩,fun h=>zai (by simpa [updV] using A6 (by simpa [Upd] using h)) hb,by simpa [Upd,updV] using A7⟩⟩
  ·have X1:a.tmps[1]?.getD undef = .pointer (some ⟨x,0,none⟩):=by
    have h:=hold 1 (by simp) (by intro j hj; rcases j with _ | _ | _ | _ | _ | _ | _ | _ | j <;> simp [dstAt])
    simpa [go_sem] using h
   exact zbf ho rfl (v:=.pointer (some ⟨x,1,none⟩)) (by go_simp) ⟨J,by simpa [Upd,updV] using K0,by simpa [Upd,updV] using K1,by simpa [Upd,updV] using K2,by simp [updV],by simpa [Upd,updV] using K4,by simpa [Upd,updV] using K5,by simpa [Upd,updV] using A6,by simpa [Upd,updV] using A7⟩
  ·have p3:=hpre 3 (by decide)
   have E3:=(hev 3 19 p3 rfl (by simp) (by simp)).trans (K3 p3)
   have e3:a.tmps[19]?.getD undef = .pointer (some ⟨x,1,none⟩):=by simpa [go_sem] using E3
   have c1:wx.cell? ⟨x,1,none⟩ = some (.int .i32 en):=(RX.below J).cell 1
   exact zbf ho rfl (v:=.int .i32 en) (by go_simp) ⟨J,by simpa [Upd,updV] using K0,by simpa [Upd,updV] using K1,by simpa [Upd,updV] using K2,by simpa [Upd,updV] using K3,by simp [updV],by simpa [Upd,updV] using K5,by simpa [Upd,updV] using A6,by simpa [Upd,updV] using A7⟩
  ·have p4:=hpre 4 (by decide)
   have E4:=(hev 4 20 p4 rfl (by simp) (by simp)).trans (K4 p4)
   have e4:a.tmps[20]?.getD undef = .int .i32 en:=by simpa [go_sem] using E4
   have hb:=zaa (Below.refl _ wx) (.cells #[.int .i32 en] 37)
   exact zbf ho rfl (v:=.slice (some ⟨wx.heap.size,0,none⟩) 1 1) (w1:=wx.alloc (.cells #[.int .i32 en] 37)) (by go_simp) ⟨zab J hb,by simpa [Upd,updV] using K0,by simpa [Upd,updV] using K1,fun h1 h2=>zai (by simpa [updV] using K2 (by simpa [Upd] using h1) (by simpa [Upd] using h2)) hb,by simpa [Upd,updV] using K3,by simpa [Upd,updV] using K4,fun _ _=>⟨wx.heap.size,by simp [updV],J.size,Row.new wx _ _⟩,fun h=>zai (by simpa [updV] using A6 (by simpa [Upd] using h)) hb,by simpa [Upd,updV] using A7⟩
  ·have p2:=hpre 2 (by decide)
   have p5:=hpre 5 (by decide)
   have e2:=hev 2 18 p2 rfl (by simp) (by simp)
   obtain ⟨g,v5,hg,RG⟩:=K5 p5 hL
   have e5:=(hev 5 21 p5 rfl (by simp) (by simp)).trans v5
   obtain ⟨v',w',hr,ho7,hb⟩:=zgv wx w0.heap.size 37 (V 2) xs.length xs (K2 p2 hL) g en RG (by have:=H60.out; omega) J.size
   exact zbf ho rfl (v:=v') (w1:=w') (zao _ _ _ _ rfl e2 e5 hr) ⟨J.trans hb,by simpa [Upd,updV] using K0,by simpa [Upd,updV] using K1,fun _ h=>by simp [Upd] at h,by simpa [Upd,updV] using K3,by simpa [Upd,updV] using K4,fun _ h=>by simp [Upd] at h,fun _=>by simpa [updV] using ho7,fun h=>⟨by simp [Upd],by have k:=(A7 (by simpa [Upd] using h)).1; rw [k] at hL; cases hL⟩⟩
  ·have p6:=hpre 6 (by decide)
   have e6:a.tmps[22]?.getD undef = V 6:=by simpa [go_sem] using hev 6 22 p6 rfl (by simp) (by simp)
   exact zbf ho rfl (v:=V 6) (by go_simp) ⟨J,by simpa [Upd,updV] using K0,by simpa [Upd,updV] using K1,by simpa [Upd,updV] using K2,by simpa [Upd,updV] using K3,by simpa [Upd,updV] using K4,by simpa [Upd,updV] using K5,by simpa [Upd,updV] using A6,fun _=>⟨by simp [Upd,p6],by simp [updV]⟩⟩
 ·rintro V wx ⟨J,K0,K1,K2,K3,K4,K5,A6,A7⟩
  have v0:=K0 rfl
  have v1:=K1 rfl
  have v3:=K3 rfl
  have v4:=K4 rfl
  have ho6:=A6 rfl
  have v7:=(A7 rfl).2
  clear K0 K1 K2 K3 K4 K5 A6 A7
  simp only [fill,if_true,dstAt,v0,v1,v3,v4,v7]
  simp [Act.put]
  clear v0 v1 v3 v4 v7
  obtain ⟨hN,hl⟩:=NsAt.of_own (l:=xs ++ [en]) ho6
  generalize V 6 = v6 at *
  generalize V 2 = v2 at *
  generalize V 5 = v5 at *
  obtain ⟨ys,hys⟩:∃ ys,ys = xs ++ [en]:=⟨_,rfl⟩
  have hyl:ys.length = xs.length + 1:=by rw [hys]; simp
  have hck:∀ k e,k < ys.length→firstE (k1 ys) k = 0→k1 ys k = e→e ≠ 0→E = e:=fun k e h1 h2 h3 h4=>by rw [HEE.out]; rw [hys] at h2 h3; exact chk_k1 H60.out (by omega) h2 h3 h4
  have hok:firstE (k1 ys) ys.length = 0→E = 0:=fun h=>by rw [HEE.out]; unfold checkK; rw [if_neg H60.out,← hys,← hyl,h]
  rw [← hys] at hN
  have HCK:=hdq hck
  have HOK:=hdq hok
  have HYL:=hdq (show ys.length≤61 by have:=H60.out; omega)
  obtain ⟨p6,cap,rfl,hN⟩:=hN
  obtain ⟨gl,o6,rfl,hN2⟩:∃ b off,p6 = some ⟨b,off,none⟩∧∀ i,i < ys.length→wx.cell? ⟨b,off + i,none⟩ = some (.int .i32 (ys.getD i 0)):=by
   rcases hN with h | h
   ·rw [h] at hyl; simp at hyl
   ·exact h
  have HD:=hdq hN2
  have HBX:=hdq (zab HBW.out J)
  have HGX:=hdq (HG.out.below J)
  clear hN hN2 ho6 hl J RX hck hok hyl hys HC0 HB0 HG H60 HEE
  show Exit.then _ _ _ { tmps:=_,defers:=[] } wx
  go_wp2_with fail
  go_loopw [25] (fun iv wr=>∃ k:Nat,k≤ys.length∧iv = .int .i64 (k:Int)∧firstE (k1 ys) k = 0∧Below wx.heap.size wx wr) (fun iv _=>ys.length - (intOf iv).toNat)
  case atStart=>exact ⟨0,by omega,rfl,rfl,Below.refl _ _⟩
  case round =>
   obtain ⟨k,hk,rfl,h0,BB⟩:=hrel
   have H0:=hdq h0
   have HB:=hdq BB
   have HBA:=hdq (zab HBX.out BB)
   clear h0 BB
   by_cases hlt:k < ys.length
   ·have i0:(0:Int)≤(k:Int):=by omega
    have i1:(k:Int) < (ys.length:Int):=by omega
    have HLT:=hdq hlt
    have e5:IntKind.i64.wrap ((k:Int) + 1) = (k:Int) + 1:=by rw [IntKind.wrap_i64]; have:=HYL.out; omega
    have c0:=zae (HD.out k hlt) HB.out
    obtain ⟨x,hx⟩:∃ x,x = ys.getD k 0:=⟨_,rfl⟩
    have V13:dayOk x = false→E = 13:=fun h=>HCK.out k 13 HLT.out H0.out (by unfold k1; rw [← hx,if_pos h]) (by omega)
    have V6:dayOk x = true→(0 < k∧x≤ys.getD (k - 1) 0)→E = 6:=fun h h1=>HCK.out k 6 HLT.out H0.out (by unfold k1; rw [← hx,if_neg (by rw [h]; decide),if_pos h1]) (by omega)
    have V0:dayOk x = true→¬ (0 < k∧x≤ys.getD (k - 1) 0)→firstE (k1 ys) (k + 1) = 0:=fun h h1=>by rw [zbw H0.out]; unfold k1; rw [← hx,if_neg (by rw [h]; decide),if_neg h1]
    rw [← hx] at c0
    have HV13:=hdq V13
    have HV6:=hdq V6
    have HV0:=hdq V0
    clear V13 V6 V0 hx hlt hk
    go_wp2_with fail
    refine (zkx x wr (HGX.out.below HB.out)).mono ?_
    rintro _ w3 ⟨s,rfl,hs1,hs2,hb⟩
    have HB3:=hdq (zab HB.out hb)
    have HBA3:=hdq (zab HBA.out hb)
    clear hb c0 i1
    by_cases q1:dayOk x = false
    ·have hv:=HV13.out q1
     have hse:=hs2 q1
     subst hse
     subst hv
     clear q1 hs1 hs2
     go_wp2_with fail
     go_ret
     exact ⟨rfl,HBA3.out⟩
    have q1:dayOk x = true:=by simpa using q1
    have Q1:=hdq q1
    have hne:=hs1 q1
    have hne2:s.toList.isEmpty = false:=(decide_eq_emptyBytes s).symm.trans (decide_eq_false hne)
    clear q1 hs1 hs2
    by_cases hk0:k = 0
    ·have Q2:Hid (¬ (0 < k∧x≤ys.getD (k - 1) 0)):=hdq fun h=>by omega
     have g0:decide ((0:Int) < (k:Int)) = false:=decide_eq_false (by omega)
     have g00:decide (0 < k) = false:=decide_eq_false (by omega)
     clear hk0
     go_wp2_with fail
     exact ⟨⟨k + 1,by have:=HLT.out; omega,by simp,HV0.out Q1.out Q2.out,HB3.out⟩,by have:=HLT.out; simp [intOf]; omega⟩
    ·obtain ⟨j,hj⟩:∃ j,j + 1 = k:=⟨k - 1,by omega⟩
     obtain ⟨y,hy⟩:∃ y,y = ys.getD j 0:=⟨_,rfl⟩
     have hjl:j < ys.length:=by have:=HLT.out; omega
     have y0:=zae (HD.out j hjl) HB3.out
     rw [← hy] at y0
     have hk1:k - 1 = j:=by omega
     rw [hk1,← hy] at HV6 HV0
     have g0:decide ((0:Int) < (k:Int)) = true:=decide_eq_true (by omega)
     have g00:decide (0 < k) = true:=decide_eq_true (by omega)
     have g1:IntKind.i64.wrap ((k:Int) - 1) = (j:Int):=by rw [IntKind.wrap_i64]; have:=HYL.out; have:=HLT.out; omega
     have g2:(0:Int)≤(j:Int):=by omega
     have g3:(j:Int) < (ys.length:Int):=by omega
     have GK:=hdq (show 0 < k by omega)
     clear hy hk1 hj hk0 hjl
     by_cases q2:x≤y
     ·have hv:=HV6.out Q1.out ⟨GK.out,q2⟩
      have z2:decide (x≤y) = true:=decide_eq_true q2
      subst hv
      clear q2
      go_wp2_with fail
      go_ret
      exact ⟨rfl,HBA3.out⟩
     have Q2:Hid (¬ (0 < k∧x≤y)):=hdq fun h=>q2 h.2
     have z2:decide (x≤y) = false:=decide_eq_false q2
     clear q2
     go_wp2_with fail
     exact ⟨⟨k + 1,by have:=HLT.out; omega,by simp,HV0.out Q1.out Q2.out,HB3.out⟩,by have:=HLT.out; simp [intOf]; omega⟩
   ·have i1:¬ (k:Int) < (ys.length:Int):=by omega
    obtain rfl:k = ys.length:=by omega
    have hv:=HOK.out H0.out
    subst hv
    clear hlt hk
    go_wp2_with fail
    go_ret
    exact ⟨rfl,HBA.out⟩
structure Fr where
 c:List Ac
 u:List Int
 k:List Int
 e:Int
def CsAt (w:World) (v:Value) (l:List Ac):Prop:=∃ p cap,v = .slice p l.length cap∧ElsAt ac 4 ac0 w p l
theorem CsAt.below {w w':World} {v:Value} {l:List Ac} (h:CsAt w v l) (hb:Below w.heap.size w w'):CsAt w' v l:=by
 obtain ⟨p,cap,e,h⟩:=h
 exact ⟨p,cap,e,h.below hb⟩
theorem CsAt.of_own {w:World} {B n:Nat} {e:TypeId} {v:Value} {l:List Ac} (h:w.ownsRow B e 4 v n (l.flatMap ac)):CsAt w v l:=by
 obtain ⟨_,p,cap,e,h⟩:=zcw ac 4 ac0 (fun _=>rfl) (by omega) h
 exact ⟨p,cap,e,h⟩
def FrAt (w:World) (cv uv kv:Value) (f:Fr):Prop:=CsAt w cv f.c∧NsAt .u16 w uv f.u∧NsAt .i32 w kv f.k
theorem FrAt.below {w w':World} {cv uv kv:Value} {f:Fr} (h:FrAt w cv uv kv f) (hb:Below w.heap.size w w'):FrAt w' cv uv kv f:=⟨h.1.below hb,h.2.1.below hb,h.2.2.below hb⟩
def Fr.fit (f:Fr):Prop:=f.c.length≤100000∧f.u.length≤100000∧∀ x ∈ f.c,x.name.size≤1000000000
def checkF (f:Fr):Nat:=if checkC f.c ≠ 0 then checkC f.c else if checkU f.u ≠ 0 then checkU f.u else checkK f.k f.e
set_option maxHeartbeats 4000000 in
set_option maxRecDepth 100000 in
theorem zew (f:Fr) (cv uv kv:Value) (w:World) (hF:FrAt w cv uv kv f) (hf:f.fit) (hG:Glb5 w) :
  Calls Tryz.prog 24 #[.agg #[cv,uv,kv,.int .i32 f.e]] w fun e w'=>e = .returned (.int .i64 (checkF f:Int))∧Below w.heap.size w w':=by
 obtain ⟨E,hEE⟩:∃ E,E = checkF f:=⟨_,rfl⟩
 rw [← hEE]
 obtain ⟨a,ha⟩:∃ a,a = checkC f.c:=⟨_,rfl⟩
 obtain ⟨b,hb0⟩:∃ b,b = checkU f.u:=⟨_,rfl⟩
 obtain ⟨d,hd⟩:∃ d,d = checkK f.k f.e:=⟨_,rfl⟩
 have hE1:a ≠ 0→E = a:=fun h=>by rw [hEE]; unfold checkF; rw [← ha,if_pos h]
 have hE2:a = 0→b ≠ 0→E = b:=fun h0 h=>by rw [hEE]; unfold checkF; rw [← ha,if_neg (by rw [h0]; simp),← hb0,if_pos h]
 have hE3:a = 0→b = 0→E = d:=fun h0 h=>by rw [hEE]; unfold checkF; rw [← ha,if_neg (by rw [h0]; simp),← hb0,if_neg (by rw [h]; simp),hd]
 have HE1:=hdq hE1
 have HE2:=hdq hE2
 have HE3:=hdq hE3
 have CC:∀ W,Below w.heap.size w W→Calls Tryz.prog 44 #[cv] W fun e w'=>e = .returned (.int .i64 (a:Int))∧Below W.heap.size W w':=fun W hb=>by
  obtain ⟨p,cap,e,h⟩:=hF.1.below hb
  rw [e,ha]
  exact zse p cap f.c W h hf.1 hf.2.2
 have CU:∀ W,Below w.heap.size w W→Calls Tryz.prog 38 #[uv] W fun e w'=>e = .returned (.int .i64 (b:Int))∧Below W.heap.size W w':=fun W hb=>by
  rw [hb0]
  exact zoo uv f.u W (hF.2.1.below hb) hf.2.1
 have CK:∀ W,Below w.heap.size w W→Calls Tryz.prog 39 #[.agg #[kv,.int .i32 f.e]] W fun e w'=>e = .returned (.int .i64 (d:Int))∧Below W.heap.size W w':=fun W hb=>by
  rw [hd]
  exact zop kv f.k f.e W (hF.2.2.below hb) (hG.below hb)
 have HCC:=hdq CC
 have HCU:=hdq CU
 have HCK:=hdq CK
 obtain ⟨p1,k1,rfl,_⟩:=hF.1
 obtain ⟨p2,k2,rfl,_⟩:=hF.2.1
 obtain ⟨p3,k3,rfl,_⟩:=hF.2.2
 obtain ⟨en,hen⟩:∃ en,en = f.e:=⟨_,rfl⟩
 rw [← hen] at HCK ⊢
 generalize f.c.length = n1 at *
 generalize f.u.length = n2 at *
 generalize f.k.length = n3 at *
 have hmf:∀ (fn:Fn) (first cap:Array Value) (w:World),(Instr.makeFunc fn first cap).run Tryz.prog w = .ok (.func fn first cap) w:=fun _ _ _ _=>rfl
 have HBW:=hdq (zaa (Below.refl _ w) (.cells #[.slice p1 n1 k1,.slice p2 n2 k2,.slice p3 n3 k3,.int .i32 en] 41))
 clear CC CU CK hF hf hG hE1 hE2 hE3 hEE ha hb0 hd hen
 go_enter Tryz.func24,Tryz.ntmps24
 go_wp2_with fail
 have RS:=Row.new' (w.alloc (.cells #[.slice p1 n1 k1,.slice p2 n2 k2,.slice p3 n3 k3,.int .i32 en] 41)) #[.func (.func 44) #[.slice p1 n1 k1] #[],.func (.func 38) #[.slice p2 n2 k2] #[],.func (.func 39) #[.agg #[.slice p3 n3 k3,.int .i32 en]] #[]] 76 (g:=w.heap.size + 1) (by simp)
 have B2:=zaa (Below.refl _ (w.alloc (.cells #[.slice p1 n1 k1,.slice p2 n2 k2,.slice p3 n3 k3,.int .i32 en] 41))) (.cells #[.func (.func 44) #[.slice p1 n1 k1] #[],.func (.func 38) #[.slice p2 n2 k2] #[],.func (.func 39) #[.agg #[.slice p3 n3 k3,.int .i32 en]] #[]] 76)
 have HB1:=hdq (zab HBW.out B2)
 clear B2 HBW
 generalize (w.alloc (.cells #[.slice p1 n1 k1,.slice p2 n2 k2,.slice p3 n3 k3,.int .i32 en] 41)).alloc (.cells #[.func (.func 44) #[.slice p1 n1 k1] #[],.func (.func 38) #[.slice p2 n2 k2] #[],.func (.func 39) #[.agg #[.slice p3 n3 k3,.int .i32 en]] #[]] 76) = w1 at *
 obtain ⟨g,hg⟩:∃ g,g = w.heap.size + 1:=⟨_,rfl⟩
 rw [← hg] at RS ⊢
 clear hg
 have c0:w1.cell? ⟨g,0,none⟩ = some (.func (.func 44) #[.slice p1 n1 k1] #[]):=RS.cell 0
 have HR1:=hdq RS
 clear RS
 refine wp_loop_rounds 4 ?_
 rw [rounds_succ]
 go_wp2_with fail
 refine (HCC.out w1 HB1.out).mono ?_
 rintro _ w2 ⟨rfl,hb⟩
 have c1:w2.cell? ⟨g,1,none⟩ = some (.func (.func 38) #[.slice p2 n2 k2] #[]):=(HR1.out.below hb).cell 1
 have HR2:=hdq (HR1.out.below hb)
 have HB2:=hdq (zab HB1.out hb)
 clear hb c0
 by_cases qa:a = 0
 case neg =>
  have hv:=HE1.out qa
  have z:((a:Int) == 0) = false:=beq_eq_false_iff_ne.2 (by omega)
  subst hv
  clear qa
  go_wp2_with fail
  go_ret
  exact ⟨rfl,HB2.out⟩
 have QA:=hdq qa
 subst qa
 go_wp2_with fail
 rw [rounds_succ]
 go_wp2_with fail
 refine (HCU.out w2 HB2.out).mono ?_
 rintro _ w3 ⟨rfl,hb⟩
 have c2:w3.cell? ⟨g,2,none⟩ = some (.func (.func 39) #[.agg #[.slice p3 n3 k3,.int .i32 en]] #[]):=(HR2.out.below hb).cell 2
 have HB3:=hdq (zab HB2.out hb)
 clear hb c1
 by_cases qb:b = 0
 case neg =>
  have hv:=HE2.out (by trivial) qb
  have z:((b:Int) == 0) = false:=beq_eq_false_iff_ne.2 (by omega)
  subst hv
  clear qb
  go_wp2_with fail
  go_ret
  exact ⟨rfl,HB3.out⟩
 subst qb
 go_wp2_with fail
 rw [rounds_succ]
 go_wp2_with fail
 refine (HCK.out w3 HB3.out).mono ?_
 rintro _ w4 ⟨rfl,hb⟩
 have HB4:=hdq (zab HB3.out hb)
 clear hb c2
 have hv:=(HE3.out (by trivial) (by trivial)).symm
 subst hv
 by_cases qd:d = 0
 case neg =>
  have z:((d:Int) == 0) = false:=beq_eq_false_iff_ne.2 (by omega)
  clear qd
  go_wp2_with fail
  go_ret
  exact ⟨rfl,HB4.out⟩
 subst qd
 go_wp2_with fail
 rw [rounds_succ]
 go_wp2_with fail
 exact bodyPost_ret (v:=.int .i64 0) (by simp [results,Tryz.results24,go_sem]) rfl ⟨rfl,HB4.out⟩
theorem CsAt.nil (w:World):CsAt w (.slice none 0 0) []:=⟨none,0,rfl,.inl rfl⟩
def renumberN (c:List Ac) (x:Ac) (t:Nat):Nat × List Ac:=if (getC c t).isSome then (7,[]) else (0,moveC (putC (dropC c x.code) { x with code:=t }) x.code t)
set_option maxHeartbeats 4000000 in
set_option maxRecDepth 100000 in
theorem zik (p:Option Addr) (cap:Nat) (c:List Ac) (x:Ac) (t:Nat) (w:World) (hE:ElsAt ac 4 ac0 w p c) (hl:c.length≤90000) (hr:AcRise c) :
  Calls Tryz.prog 56 #[.slice p c.length cap,.agg #[.int .u32 (x.code:Int),.string x.name,.int .u8 (x.kind:Int),.int .u32 (x.par:Int)],.int .u32 (t:Int)] w fun e w'=>∃ v,e = .returned (.tuple #[v,.int .i64 ((renumberN c x t).1:Int)])∧CsAt w' v (renumberN c x t).2∧Below w.heap.size w w':=by
 have B0:=zaa (Below.refl _ w) (.cells (ac x).toArray 61)
 have R0:=Row.new w (ac x).toArray 61
 have GET:=hdq fun W (hb:Below w.heap.size w W)=>zde p cap c t W (hE.below hb) (by omega) hr
 have WO:=hdq fun W (hb:Below w.heap.size w W)=>zdv p cap c x.code W (hE.below hb) (by omega)
 have HL:=hdq hl
 have HRS:=hdq hr
 obtain ⟨g,hg⟩:∃ g,g = w.heap.size:=⟨_,rfl⟩
 rw [← hg] at R0
 have HG:=hdq hg
 change Row (w.alloc (.cells #[.int .u32 (x.code:Int),.string x.name,.int .u8 (x.kind:Int),.int .u32 (x.par:Int)] 61)) g #[.int .u32 (x.code:Int),.string x.name,.int .u8 (x.kind:Int),.int .u32 (x.par:Int)] _ at R0
 change Below _ _ (w.alloc (.cells #[.int .u32 (x.code:Int),.string x.name,.int .u8 (x.kind:Int),.int .u32 (x.par:Int)] 61)) at B0
 clear hE hl hr
 go_enter Tryz.func56,Tryz.ntmps56
 go_wp2_with fail
 rw [← hg]
 clear hg
 generalize w.alloc (.cells #[.int .u32 (x.code:Int),.string x.name,.int .u8 (x.kind:Int),.int .u32 (x.par:Int)] 61) = w0 at *
 refine (GET.out w0 B0).mono ?_
 rintro _ w1 ⟨rfl,hb⟩
 have R1:=R0.below hb
 have B1:=zab B0 hb
 obtain ⟨q,hq⟩:∃ q,q = getC c t:=⟨_,rfl⟩
 rw [← hq]
 clear hb R0 B0 GET
 cases q with
 | some y =>
  have hv:renumberN c x t = (7,[]):=by unfold renumberN; rw [← hq]; rfl
  have HV:=hdq hv
  have HB:=hdq (zaa B1 (.cells (ac y).toArray 61))
  clear hv hq R1 B1
  simp only [Option.isSome_some,Option.getD_some,ac]
  go_wp2_with fail
  exact bodyPost_ret (v:=.tuple #[.slice none 0 0,.int .i64 7]) (by simp [results,Tryz.results56,go_sem]) rfl ⟨.slice none 0 0,by rw [HV.out]; rfl,by rw [HV.out]; exact CsAt.nil _,HB.out⟩
 | none =>
  have hv:renumberN c x t = (0,moveC (putC (dropC c x.code) { x with code:=t }) x.code t):=by unfold renumberN; rw [← hq]; rfl
  have HV:=hdq hv
  have R2:=R1.alloc (.cells #[.int .u32 0,.string ByteArray.empty,.int .u8 0,.int .u32 0] 61)
  have B2:=zaa B1 (.cells #[.int .u32 0,.string ByteArray.empty,.int .u8 0,.int .u32 0] 61)
  have c0:(w1.alloc (.cells #[.int .u32 0,.string ByteArray.empty,.int .u8 0,.int .u32 0] 61)).cell? ⟨g,0,none⟩ = some (.int .u32 (x.code:Int)):=R2.cell 0
  have HR2:=hdq R2
  have B3:=(zag g [.int .u32 (t:Int)] 0 (w1.alloc (.cells #[.int .u32 0,.string ByteArray.empty,.int .u8 0,.int .u32 0] 61))).below B2 (by rw [HG.out]; exact Nat.le_refl _)
  have R3:=Row.setCells [.int .u32 (t:Int)] 0 R2
  clear hv hq R1 B1 R2 B2
  simp only [Option.isSome_none,Option.getD_none,ac,ac0]
  go_wp2_with (first | (refine zam rfl 44 _ _ rfl g 0 (.int .u32 (t:Int)) rfl rfl rfl HR2.out (by kernel_rfl) (by show 0 < 4; omega) rfl rfl ?_))
  clear c0
  generalize (w1.alloc (.cells #[.int .u32 0,.string ByteArray.empty,.int .u8 0,.int .u32 0] 61)).setCells g 0 [.int .u32 (t:Int)] = w2 at *
  change Row w2 g #[.int .u32 (t:Int),.string x.name,.int .u8 (x.kind:Int),.int .u32 (x.par:Int)] _ at R3
  have HB3:=hdq B3
  have HR3:=hdq R3
  clear B3 R3 HR2
  obtain ⟨y,hy⟩:∃ y:Ac,y = { x with code:=t }:=⟨_,rfl⟩
  rw [← hy] at HV
  have h1:dropC c x.code = dropC c x.code∧(dropC c x.code).length≤90000∧AcRise (dropC c x.code):=⟨rfl,Nat.le_trans (zdh _ _) HL.out,zoi _ HRS.out⟩
  have h2:(putC (dropC c x.code) y).length≤90001:=by have:=zdm (dropC c x.code) y; omega
  have H1:=hdq h1
  have H2:=hdq h2
  have HY:=hdq hy
  clear h1 h2 hy
  refine zbp (n:=10) 9 20 (by kernel_rfl) (fun w'=>Below w2.heap.size w2 w') (fun i w' v=>match i with
    | 2=>CsAt w' v (dropC c x.code)
    | 4=>CsAt w' v (putC (dropC c x.code) y)
    | 7=>CsAt w' v (moveC (putC (dropC c x.code) y) x.code t)
    | 8=>CsAt w' v (moveC (putC (dropC c x.code) y) x.code t)
    | i=>v = (#[.slice p c.length cap,.int .u32 (x.code:Int),undef,.agg #[.int .u32 (t:Int),.string x.name,.int .u8 (x.kind:Int),.int .u32 (x.par:Int)],undef,.int .u32 (x.code:Int),.int .u32 (t:Int)]:Array Value).getD i undef)
   (fun cz v w'=>v = .int .i64 0∧CsAt w' (cz 8) (moveC (putC (dropC c x.code) y) x.code t)∧Below w2.heap.size w2 w') (by kernel_rfl) (by kernel_rfl) (by kernel_rfl) (zat (Below.refl _ _)) rfl (fun _ _ a b=>zab a b) (fun i w1 w2 v hb h=>by
    rcases i with _ | _ | _ | _ | _ | _ | _ | _ | _ | i
    all_goals (first | exact h | exact CsAt.below h hb)) ?_
  intro F Fz hF hFz
  simp only [fill,updV,dstAt] at hF hFz
  simp [Act.put] at hF hFz
  obtain rfl:F = fun cz=>_:=funext fun cz=>(hF cz).symm
  obtain rfl:Fz = fun cz v=>_:=funext fun cz=>funext fun v=>(hFz cz v).symm
  clear hF hFz
  refine ⟨?_,?_,?_⟩
  ·intro i op ho n1 cz wx S hG
   have RX:=HR3.out.below S
   have d0:wx.cell? ⟨g,0,none⟩ = some (.int .u32 (t:Int)):=RX.cell 0
   have d1:wx.cell? ⟨g,1,none⟩ = some (.string x.name):=RX.cell 1
   have d2:wx.cell? ⟨g,2,none⟩ = some (.int .u8 (x.kind:Int)):=RX.cell 2
   have d3:wx.cell? ⟨g,3,none⟩ = some (.int .u32 (x.par:Int)):=RX.cell 3
   have BW:=hdq (HB3.out.trans (S.mono HB3.out.size))
   rcases i with _ | _ | _ | _ | _ | _ | _ | _ | _ | _ | i
   all_goals (first | (exact absurd rfl n1) | (simp at ho; done) | (obtain rfl:=Option.some.inj ho))
   ·exact zac (.slice p c.length cap) rfl (by go_simp) ⟨Below.refl _ _,rfl⟩
   ·exact zac (.int .u32 (x.code:Int)) rfl (by go_simp) ⟨Below.refl _ _,rfl⟩
   ·have g0:cz 0 = .slice p c.length cap:=hG 0 rfl (by omega)
    have g1:cz 1 = .int .u32 (x.code:Int):=hG 1 rfl (by omega)
    exact zdu rfl rfl Tryz.func94 (by kernel_rfl) rfl #[.slice p c.length cap,.int .u32 (x.code:Int)] (by simp only [g0,g1]; go_simp) ((WO.out wx BW.out).mono fun e w' ⟨v,h1,h2,h3⟩=>⟨v,h1,h3,CsAt.of_own h2⟩)
   ·exact zac (.agg #[.int .u32 (t:Int),.string x.name,.int .u8 (x.kind:Int),.int .u32 (x.par:Int)]) rfl (by go_simp) ⟨Below.refl _ _,rfl⟩
   ·obtain ⟨p2,k2,g2,h2⟩:=hG 2 rfl (by omega)
    have g3:cz 3 = .agg #[.int .u32 (t:Int),.string x.name,.int .u8 (x.kind:Int),.int .u32 (x.par:Int)]:=hG 3 rfl (by omega)
    have WI:=zgy p2 k2 (dropC c x.code) y wx h2 (by have:=H1.out.2.1; omega) H1.out.2.2
    rw [HY.out] at WI
    exact zdu rfl rfl Tryz.func57 (by kernel_rfl) rfl #[.slice p2 (dropC c x.code).length k2,.agg #[.int .u32 (t:Int),.string x.name,.int .u8 (x.kind:Int),.int .u32 (x.par:Int)]] (by simp only [g2,g3]; go_simp) (WI.mono fun e w' ⟨v,h1,h2,h3⟩=>⟨v,h1,h3,by rw [HY.out]; exact CsAt.of_own h2⟩)
   ·exact zac (.int .u32 (x.code:Int)) rfl (by go_simp) ⟨Below.refl _ _,rfl⟩
   ·exact zac (.int .u32 (t:Int)) rfl (by go_simp) ⟨Below.refl _ _,rfl⟩
   ·obtain ⟨p4,k4,g4,h4⟩:=hG 4 rfl (by omega)
    have g5:cz 5 = .int .u32 (x.code:Int):=hG 5 rfl (by omega)
    have g6:cz 6 = .int .u32 (t:Int):=hG 6 rfl (by omega)
    exact zdu rfl rfl Tryz.func95 (by kernel_rfl) rfl #[.slice p4 (putC (dropC c x.code) y).length k4,.int .u32 (x.code:Int),.int .u32 (t:Int)] (by simp only [g4,g5,g6]; go_simp) ((zqu p4 k4 (putC (dropC c x.code) y) x.code t wx h4 (by have:=H2.out; omega)).mono fun e w' ⟨v,h1,h2,h3⟩=>⟨v,h1,h3,CsAt.of_own h2⟩)
   ·have h7:CsAt wx (cz 7) (moveC (putC (dropC c x.code) y) x.code t):=hG 7 rfl (by omega)
    exact zac (cz 7) rfl (by go_simp) ⟨Below.refl _ _,h7⟩
  ·intro op ho cz wx S hG
   obtain rfl:=Option.some.inj ho
   have h8:CsAt wx (cz 8) (moveC (putC (dropC c x.code) y) x.code t):=hG 8 (by omega) (by omega)
   exact zac (.int .i64 0) rfl (by go_simp) ⟨rfl,h8,S⟩
  ·rintro cz v wx ⟨rfl,h8,SX⟩
   have HC:=hdq h8
   have HBX:=hdq (HB3.out.trans (SX.mono HB3.out.size))
   clear h8 SX
   show Exit.then _ _ _ { tmps:=_,defers:=[] } wx
   go_wp2_with fail
   exact bodyPost_ret (v:=.tuple #[cz 8,.int .i64 0]) (by simp [results,Tryz.results56,go_sem]) rfl ⟨cz 8,by rw [HV.out]; rfl,by rw [HV.out]; exact HC.out,HBX.out⟩
end Go.Proofs.YtlpdfglbdijkoaaGreatDoor