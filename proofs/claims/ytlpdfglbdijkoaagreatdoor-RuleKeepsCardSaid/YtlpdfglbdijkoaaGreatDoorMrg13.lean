/-
  Own texts, several in one (Awake9, Make10, Frame10, Book10).
-/
import Derived.Test.YtlpdfglbdijkoaaGreatDoorMrg9
import Derived.Test.YtlpdfglbdijkoaaGreatDoorMrg12
namespace Go.Proofs.YtlpdfglbdijkoaaGreatDoor
open Go.RowKit
set_option linter.unusedVariables false
set_option linter.unusedSimpArgs false
def l9:List Ln:=[⟨1,1,0,100⟩,⟨2,1,0,-100⟩]
theorem zgm {α β:Type} (f:α→β) (hf:∀ c d,f c = f d→c = d):∀ (l:List α),l.Nodup→(l.map f).Nodup
 | [],_=>List.nodup_nil
 | x :: l,h=>by
  rw [List.nodup_cons] at h
  rw [List.map_cons,List.nodup_cons]
  refine ⟨fun hm=>?_,zgm f hf l h.2⟩
  obtain ⟨y,hy,e⟩:=List.mem_map.1 hm
  exact h.1 (hf _ _ e ▸ hy)
theorem MapIs.countT {κ ν:Type} {w:World} {P:Program} {k:TypeId} {enc:κ→Value} {vl:ν→Value} {b n:Nat} {G:κ→Option ν} (h:MapIs w P k enc vl b n G) (hinj:∀ c d,enc c = enc d→c = d) (l:List κ) (hl:l.Nodup) (hm:∀ c,c ∈ l ↔ ∃ u,G c = some u) :
  ∃ es clock,w.heap[b]? = some (.map es clock)∧es.size = l.length:=by
 obtain ⟨es,clock,hb,F,_,H1,H2⟩:=h
 refine ⟨es,clock,hb,?_⟩
 have hnd:(es.toList.map (·.key)).Nodup:=F.stamped.2.2
 have e1:(es.toList.map (·.key)).Perm (l.map enc):=by
  rw [List.perm_ext_iff_of_nodup hnd (zgm enc hinj l hl)]
  intro v
  constructor
  ·intro hv
   obtain ⟨x,hx,rfl⟩:=List.mem_map.1 hv
   obtain ⟨c,u,hk,_,hg⟩:=H1 x hx
   exact List.mem_map.2 ⟨c,(hm c).2 ⟨u,hg⟩,hk.symm⟩
  ·intro hv
   obtain ⟨c,hc,rfl⟩:=List.mem_map.1 hv
   obtain ⟨u,hu⟩:=(hm c).1 hc
   obtain ⟨x,hx,hk,_⟩:=H2 c u hu
   exact List.mem_map.2 ⟨x,hx,hk⟩
 have e2:=e1.length_eq
 simpa using e2
theorem code9:jcode 0 l9 = 0:=by decide
set_option maxHeartbeats 1000000 in
theorem awake9 (w:World) (hG:Glb5 w):Calls Tryz.prog 197 #[] w fun e w'=>e = .returned (.bool true)∧Below w.heap.size w w':=by
 have HG:=hdq hG
 clear hG
 go_enter Tryz.func197,Tryz.ntmps197
 go_wp2_with fail
 have R:=Row.new w #[.int .u32 1,.int .u16 1,.int .u16 0,.int .i64 100,.int .u32 2,.int .u16 1,.int .u16 0,.int .i64 (-100)] 142
 have RJ:=Row.new' (w.alloc (.cells #[.int .u32 1,.int .u16 1,.int .u16 0,.int .i64 100,.int .u32 2,.int .u16 1,.int .u16 0,.int .i64 (-100)] 142)) #[.int .i32 0,.slice (some ⟨w.heap.size,0,none⟩) 2 2] 109 (g:=w.heap.size + 1) (by simp)
 have R2:=R.alloc (.cells #[.int .i32 0,.slice (some ⟨w.heap.size,0,none⟩) 2 2] 109)
 have HB:=hdq (zaa (zaa (Below.refl _ w) (.cells #[.int .u32 1,.int .u16 1,.int .u16 0,.int .i64 100,.int .u32 2,.int .u16 1,.int .u16 0,.int .i64 (-100)] 142)) (.cells #[.int .i32 0,.slice (some ⟨w.heap.size,0,none⟩) 2 2] 109))
 obtain ⟨gj,hgj⟩:∃ g,g = w.heap.size + 1:=⟨_,rfl⟩
 obtain ⟨g,hg⟩:∃ g,g = w.heap.size:=⟨_,rfl⟩
 rw [← hgj] at RJ
 rw [← hgj]
 rw [← hg] at R2 RJ
 rw [← hg]
 have HB:Hid (Below w.heap.size w ((w.alloc (.cells #[.int .u32 1,.int .u16 1,.int .u16 0,.int .i64 100,.int .u32 2,.int .u16 1,.int .u16 0,.int .i64 (-100)] 142)).alloc (.cells #[.int .i32 0,.slice (some ⟨g,0,none⟩) 2 2] 109))):=hdq (by rw [hg]; exact HB.out)
 clear hg hgj R
 generalize (w.alloc (.cells #[.int .u32 1,.int .u16 1,.int .u16 0,.int .i64 100,.int .u32 2,.int .u16 1,.int .u16 0,.int .i64 (-100)] 142)).alloc (.cells #[.int .i32 0,.slice (some ⟨g,0,none⟩) 2 2] 109) = w1 at *
 have hE:ElsAt ln 4 ln0 w1 (some ⟨g,0,none⟩) l9:=.inr ⟨g,0,rfl,fun i hi=>by
  have hi:i < 2:=hi
  intro j v hv
  have hj:j < 4:=by
   by_cases c:j < 4
   ·exact c
   ·rw [List.getElem?_eq_none (by show 4≤j; omega)] at hv; cases hv
  rw [R2.cell]
  rcases i with _ | _ | i
  ·rcases j with _ | _ | _ | _ | j
   ·exact hv
   ·exact hv
   ·exact hv
   ·exact hv
   ·omega
  ·rcases j with _ | _ | _ | _ | j
   ·exact hv
   ·exact hv
   ·exact hv
   ·exact hv
   ·omega
  ·omega⟩
 have hok:∀ x ∈ l9,x.ok:=by
  intro x hx
  unfold l9 at hx
  simp at hx
  rcases hx with rfl | rfl
  ·exact ⟨⟨by dsimp only; omega,by dsimp only; omega,by dsimp only; omega⟩,by unfold Wd.I64; dsimp only; omega⟩
  ·exact ⟨⟨by dsimp only; omega,by dsimp only; omega,by dsimp only; omega⟩,by unfold Wd.I64; dsimp only; omega⟩
 have JC:=hdq (znw 0 (some ⟨g,0,none⟩) 2 l9 w1 (HG.out.below HB.out) (by show 2≤1000; omega) hok hE)
 rw [code9] at JC
 refine JC.out.mono ?_
 rintro _ w2 ⟨rfl,hb2⟩
 have RJ2:=RJ.below hb2
 have d0:w2.cell? ⟨gj,0,none⟩ = some (.int .i32 0):=RJ2.cell 0
 have d1:w2.cell? ⟨gj,1,none⟩ = some (.slice (some ⟨g,0,none⟩) 2 2):=RJ2.cell 1
 have JS:=hdq (zjd 0 (some ⟨g,0,none⟩) 2 l9 w2 (by show 2≤1000; omega) hok (hE.below hb2))
 have HB2:=hdq (zab HB.out hb2)
 clear hb2 RJ2 RJ R2 hE hok JC
 go_wp2_with fail
 refine JS.out.mono ?_
 rintro _ w3 ⟨b,rfl,hbw,hM,hb3⟩
 have HB3:=hdq (zab HB2.out hb3)
 obtain ⟨es,clock,hes,hsz⟩:=hM.countT zhm [1] (by simp) (fun c=>by
  rw [zpj]
  show c ∈ [1] ↔ c ∈ [1,1]
  simp)
 have hln:∀ ty,(Builtin.len_ #[293] ty #[.map (some b)]).run Tryz.prog w3 = .ok (goInt 1) w3:=fun ty=>by
  have h:=run_len_map (P:=Tryz.prog) w3 293 ty b es clock (by kernel_rfl) hes
  rw [hsz] at h
  exact h
 clear hM hes hsz d0 d1 JS hbw hb3
 go_wp2_with fail
 refine (awake8 w3 (HG.out.below HB3.out)).mono ?_
 rintro _ w5 ⟨rfl,hb5⟩
 go_wp2
 go_ret
 exact ⟨rfl,zab HB3.out hb5⟩
theorem zrd (w:World):Calls Tryz.prog 28 #[.slice none 0 0] w fun e w'=>e = .returned (.slice none 0 0)∧Below w.heap.size w w':=by
 go_enter Tryz.func28,Tryz.ntmps28
 go_wp2_with fail
 refine wp_loop_rounds 1 ?_
 rw [rounds_succ]
 go_wp2_with fail
 exact bodyPost_ret (v:=.slice none 0 0) (by simp [results,Tryz.results28,go_sem]) rfl ⟨rfl,Below.refl _ _⟩
theorem zlb (w:World):Calls Tryz.prog 130 #[.int .u64 0] w fun e w'=>e = .returned (.int .i64 0)∧w' = w:=by
 go_enter Tryz.func130,Tryz.ntmps130
 go_wp2_with fail
 exact bodyPost_ret (v:=.int .i64 0) (by simp [results,Tryz.results130,go_sem]; decide +kernel) rfl ⟨rfl,rfl⟩
theorem zsf (w:World):Calls Tryz.prog 87 #[.int .u64 0] w fun e w'=>e = .returned (.int .i64 0)∧w' = w:=by
 go_enter Tryz.func87,Tryz.ntmps87
 go_wp2_with fail
 refine (zlb w).mono ?_
 rintro _ _ ⟨rfl,rfl⟩
 go_wp2_with fail
 exact bodyPost_ret (v:=.int .i64 0) (by simp [results,Tryz.results87,go_sem]) rfl ⟨rfl,rfl⟩
theorem ins_nil (w:World):Calls Tryz.prog 120 #[.slice none 0 0,.int .i64 0,.int .i64 0] w fun e w'=>e = .returned (.tuple #[])∧Below w.heap.size w w':=by
 go_enter Tryz.func120,Tryz.ntmps120
 go_wp2_with fail
 refine wp_loop_rounds 1 ?_
 rw [rounds_succ]
 go_wp2_with fail
 go_end0
 exact ⟨rfl,Below.refl _ _⟩
theorem pdq_nil (w:World):Calls Tryz.prog 86 #[.slice none 0 0,.int .i64 0,.int .i64 0,.int .i64 0] w fun e w'=>e = .returned (.tuple #[])∧Below w.heap.size w w':=by
 go_enter Tryz.func86,Tryz.ntmps86
 go_wp2_with fail
 refine wp_loop_rounds 1 ?_
 rw [rounds_succ]
 go_wp2_with fail
 refine (ins_nil w).mono ?_
 rintro _ w1 ⟨rfl,hb⟩
 go_wp2_with fail
 exact bodyPost_ret (results_none rfl _ _ _) rfl ⟨rfl,hb⟩
theorem zln (w:World):Calls Tryz.prog 51 #[.slice none 0 0] w fun e w'=>e = .returned (.tuple #[])∧Below w.heap.size w w':=by
 go_enter Tryz.func51,Tryz.ntmps51
 go_wp2_with fail
 refine (zsf w).mono ?_
 rintro _ w0 ⟨rfl,e0⟩
 subst e0
 go_wp2_with fail
 refine (pdq_nil _).mono ?_
 rintro _ w1 ⟨rfl,hb⟩
 go_wp2_with fail
 go_end0
 exact ⟨rfl,hb⟩
theorem zrb (w:World):Calls Tryz.prog 29 #[.slice none 0 0] w fun e w'=>e = .returned (.slice none 0 0)∧Below w.heap.size w w':=by
 go_enter Tryz.func29,Tryz.ntmps29
 go_wp2_with fail
 refine wp_loop_rounds 1 ?_
 rw [rounds_succ]
 go_wp2_with fail
 refine (zln w).mono ?_
 rintro _ w1 ⟨rfl,hb⟩
 go_wp2_with fail
 exact bodyPost_ret (v:=.slice none 0 0) (by simp [results,Tryz.results29,go_sem]) rfl ⟨rfl,hb⟩
theorem make8r (w:World):Calls Tryz.prog 30 #[.int .i16 0,.slice none 0 0] w fun r w'=>∃ b,r = .returned (.agg #[.slice (some ⟨b,0,none⟩) 1 1,.int .i32 31])∧w.heap.size≤b∧Row w' b #[.int .i32 0] 37∧Below w.heap.size w w':=by
 go_enter Tryz.func30,Tryz.ntmps30
 go_wp2_with fail
 refine wp_loop_rounds 1 ?_
 rw [rounds_succ]
 go_wp2_with fail
 have hB1:=zaa (Below.refl _ w) (.cells #[.slice (some ⟨w.heap.size + 1,0,none⟩) 1 1,.int .i32 31] 39)
 have R1:=Row.new' (w.alloc (.cells #[.slice (some ⟨w.heap.size + 1,0,none⟩) 1 1,.int .i32 31] 39)) #[.int .i32 0] 37 (g:=w.heap.size + 1) (by simp)
 exact bodyPost_ret (v:=.agg #[.slice (some ⟨w.heap.size + 1,0,none⟩) 1 1,.int .i32 31]) (by simp [results,Tryz.results30,go_sem]) rfl ⟨_,rfl,by omega,R1.alloc _,zaa (zaa hB1 _) _⟩
def FrI (w0:World) (x:Nat) (L:Nat→Bool) (V:Nat→Value) (w':World):Prop :=
 Below w0.heap.size w0 w'∧(L 0 = true→V 0 = .pointer (some ⟨x,0,none⟩))∧(L 1 = true→V 1 = .slice none 0 0)∧(L 2 = true→V 2 = .slice none 0 0)∧(L 3 = true→V 3 = .pointer (some ⟨x,1,none⟩))∧(L 4 = true→V 4 = .slice none 0 0)∧(L 5 = true→V 5 = .slice none 0 0)∧(L 6 = true→V 6 = .pointer (some ⟨x,2,none⟩))∧(L 7 = true→V 7 = .int .i16 0)∧(L 8 = true→V 8 = .pointer (some ⟨x,3,none⟩))∧(L 9 = true→V 9 = .slice none 0 0)∧(L 10 = true→∃ b,V 10 = .agg #[.slice (some ⟨b,0,none⟩) 1 1,.int .i32 31]∧w0.heap.size≤b∧Row w' b #[.int .i32 0] 37)∧(L 11 = true→∃ b,V 11 = .agg #[.slice none 0 0,.slice none 0 0,.slice (some ⟨b,0,none⟩) 1 1,.int .i32 31]∧w0.heap.size≤b∧Row w' b #[.int .i32 0] 37)∧(L 12 = true→∃ g,V 12 = .pointer (some ⟨g,0,none⟩)∧w0.heap.size≤g∧(L 13 = false→Row w' g #[.slice none 0 0,.slice none 0 0,.slice none 0 0,.int .i32 0] 41)∧(L 13 = true→∃ b,b ≠ g∧w0.heap.size≤b∧Row w' b #[.int .i32 0] 37∧Row w' g #[.slice none 0 0,.slice none 0 0,.slice (some ⟨b,0,none⟩) 1 1,.int .i32 31] 41))∧(L 13 = true→L 12 = true∧L 11 = true)
theorem zmy (w:World):(zeroValue 41).run Tryz.prog w = .ok (.agg #[.slice none 0 0,.slice none 0 0,.slice none 0 0,.int .i32 0]) w:=by kernel_rfl
set_option maxHeartbeats 2000000 in
theorem frame10 (w:World):Calls Tryz.prog 10 #[.agg #[.slice none 0 0,.slice none 0 0,.int .i16 0,.slice none 0 0,.slice none 0 0]] w fun e w'=>∃ c u b,e = .returned (.agg #[.slice (some ⟨c,0,none⟩) 1 1,.slice (some ⟨u,0,none⟩) 1 1,.slice (some ⟨b,0,none⟩) 1 1,.int .i32 31])∧Row w' c #[.int .u32 7,.string ⟨#[67,97,115,104]⟩,.int .u8 0,.int .u32 0] 61∧Row w' u #[.int .u16 5] 56∧Row w' b #[.int .i32 0] 37∧Below w.heap.size w w':=by
 go_enter Tryz.func10,Tryz.ntmps10
 go_wp2_with fail
 have RX:=Row.new w #[.slice none 0 0,.slice none 0 0,.int .i16 0,.slice none 0 0,.slice none 0 0] 28
 have RX:=RX.alloc (.cells #[.slice none 0 0,.slice none 0 0,.slice none 0 0,.int .i32 0] 41)
 have RR:=Row.new' (w.alloc (.cells #[.slice none 0 0,.slice none 0 0,.int .i16 0,.slice none 0 0,.slice none 0 0] 28)) #[.slice none 0 0,.slice none 0 0,.slice none 0 0,.int .i32 0] 41 (g:=w.heap.size + 1) (by simp)
 have HB:=hdq (zaa (zaa (Below.refl _ w) (.cells #[.slice none 0 0,.slice none 0 0,.int .i16 0,.slice none 0 0,.slice none 0 0] 28)) (.cells #[.slice none 0 0,.slice none 0 0,.slice none 0 0,.int .i32 0] 41))
 generalize (w.alloc (.cells #[.slice none 0 0,.slice none 0 0,.int .i16 0,.slice none 0 0,.slice none 0 0] 28)).alloc (.cells #[.slice none 0 0,.slice none 0 0,.slice none 0 0,.int .i32 0] 41) = w0 at *
 obtain ⟨y,hy⟩:∃ y,y = w.heap.size + 1:=⟨_,rfl⟩
 obtain ⟨x,hx⟩:∃ x,x = w.heap.size:=⟨_,rfl⟩
 rw [← hy] at RR ⊢
 rw [← hx] at RX ⊢
 have HXY:=hdq (And.intro hx hy)
 clear hx hy
 refine zcn (n:=14) (by kernel_rfl) (FrI w0 x) (by kernel_rfl) ?_ ?_ rfl ?_
 ·refine ⟨zat (Below.refl _ _),?_,?_,?_,?_,?_,?_,?_,?_,?_,?_,?_,?_,?_,?_⟩ <;> (intro h; simp at h)
 ·intro i o ho
  rcases i with _ | _ | _ | _ | _ | _ | _ | _ | _ | _ | _ | _ | _ | _ | i
  all_goals (first | (simp at ho; done) | (obtain rfl:=Option.some.inj ho))
  all_goals (rintro L V wx hL hpre ⟨J1,K0,K1,K2,K3,K4,K5,K6,K7,K8,K9,K10,K11,KA,KS⟩ a hdef hev hold)
  ·have X1:a.tmps[1]?.getD undef = .pointer (some ⟨x,0,none⟩):=by
    have h:=hold 1 (by simp) (by intro j hj; rcases j with _ | _ | _ | _ | _ | _ | _ | _ | _ | _ | _ | _ | _ | _ | j <;> simp [dstAt])
    simpa [go_sem] using h
   exact zbf ho rfl (v:=.pointer (some ⟨x,0,none⟩)) (by go_simp) ⟨J1,by simp [updV],by simpa [Upd,updV] using K1,by simpa [Upd,updV] using K2,by simpa [Upd,updV] using K3,by simpa [Upd,updV] using K4,by simpa [Upd,updV] using K5,by simpa [Upd,updV] using K6,by simpa [Upd,updV] using K7,by simpa [Upd,updV] using K8,by simpa [Upd,updV] using K9,by simpa [Upd,updV] using K10,by simpa [Upd,updV] using K11,by simpa [Upd,updV] using KA,by simpa [Upd,updV] using KS⟩
  ·have p0:=hpre 0 (by decide)
   have E0:=(hev 0 4 p0 rfl (by simp) (by simp)).trans (K0 p0)
   have e0:a.tmps[4]?.getD undef = .pointer (some ⟨x,0,none⟩):=by simpa [go_sem] using E0
   have RX':=RX.below J1
   have c0:wx.cell? ⟨x,0,none⟩ = some (.slice none 0 0):=RX'.cell 0
   exact zbf ho rfl (v:=.slice none 0 0) (by go_simp) ⟨J1,by simpa [Upd,updV] using K0,by simp [updV],by simpa [Upd,updV] using K2,by simpa [Upd,updV] using K3,by simpa [Upd,updV] using K4,by simpa [Upd,updV] using K5,by simpa [Upd,updV] using K6,by simpa [Upd,updV] using K7,by simpa [Upd,updV] using K8,by simpa [Upd,updV] using K9,by simpa [Upd,updV] using K10,by simpa [Upd,updV] using K11,by simpa [Upd,updV] using KA,by simpa [Upd,updV] using KS⟩
  ·have p1:=hpre 1 (by decide)
   have E1:=(hev 1 5 p1 rfl (by simp) (by simp)).trans (K1 p1)
   have e1:a.tmps[5]?.getD undef = .slice none 0 0:=by simpa [go_sem] using E1
   refine zfm ho rfl rfl Tryz.func28 (by kernel_rfl) rfl #[.slice none 0 0] (by simp [E1]) ((zrd _).mono ?_)
   rintro _ wy ⟨rfl,hb⟩
   exact ⟨_,rfl,⟨zab J1 hb,by simpa [Upd,updV] using K0,by simpa [Upd,updV] using K1,by simp [updV],by simpa [Upd,updV] using K3,by simpa [Upd,updV] using K4,by simpa [Upd,updV] using K5,by simpa [Upd,updV] using K6,by simpa [Upd,updV] using K7,by simpa [Upd,updV] using K8,by simpa [Upd,updV] using K9,fun h=>by obtain ⟨b,e1,e2,R⟩:=K10 (by simpa [Upd] using h); exact ⟨b,by simpa [updV] using e1,e2,R.below hb⟩,fun h=>by obtain ⟨b,e1,e2,R⟩:=K11 (by simpa [Upd] using h); exact ⟨b,by simpa [updV] using e1,e2,R.below hb⟩,fun h=>by obtain ⟨g,e1,e2,R1,R2⟩:=KA (by simpa [Upd] using h); exact ⟨g,by simpa [updV] using e1,e2,fun h=>(R1 (by simpa [Upd] using h)).below hb,fun h=>by obtain ⟨b,n1,n2,n3,n4⟩:=R2 (by simpa [Upd] using h); exact ⟨b,n1,n2,n3.below hb,n4.below hb⟩⟩,by simpa [Upd,updV] using KS⟩⟩
  ·have X1:a.tmps[1]?.getD undef = .pointer (some ⟨x,0,none⟩):=by
    have h:=hold 1 (by simp) (by intro j hj; rcases j with _ | _ | _ | _ | _ | _ | _ | _ | _ | _ | _ | _ | _ | _ | j <;> simp [dstAt])
    simpa [go_sem] using h
   exact zbf ho rfl (v:=.pointer (some ⟨x,1,none⟩)) (by go_simp) ⟨J1,by simpa [Upd,updV] using K0,by simpa [Upd,updV] using K1,by simpa [Upd,updV] using K2,by simp [updV],by simpa [Upd,updV] using K4,by simpa [Upd,updV] using K5,by simpa [Upd,updV] using K6,by simpa [Upd,updV] using K7,by simpa [Upd,updV] using K8,by simpa [Upd,updV] using K9,by simpa [Upd,updV] using K10,by simpa [Upd,updV] using K11,by simpa [Upd,updV] using KA,by simpa [Upd,updV] using KS⟩
  ·have p3:=hpre 3 (by decide)
   have E3:=(hev 3 7 p3 rfl (by simp) (by simp)).trans (K3 p3)
   have e3:a.tmps[7]?.getD undef = .pointer (some ⟨x,1,none⟩):=by simpa [go_sem] using E3
   have RX':=RX.below J1
   have c0:wx.cell? ⟨x,1,none⟩ = some (.slice none 0 0):=RX'.cell 1
   exact zbf ho rfl (v:=.slice none 0 0) (by go_simp) ⟨J1,by simpa [Upd,updV] using K0,by simpa [Upd,updV] using K1,by simpa [Upd,updV] using K2,by simpa [Upd,updV] using K3,by simp [updV],by simpa [Upd,updV] using K5,by simpa [Upd,updV] using K6,by simpa [Upd,updV] using K7,by simpa [Upd,updV] using K8,by simpa [Upd,updV] using K9,by simpa [Upd,updV] using K10,by simpa [Upd,updV] using K11,by simpa [Upd,updV] using KA,by simpa [Upd,updV] using KS⟩
  ·have p4:=hpre 4 (by decide)
   have E4:=(hev 4 8 p4 rfl (by simp) (by simp)).trans (K4 p4)
   have e4:a.tmps[8]?.getD undef = .slice none 0 0:=by simpa [go_sem] using E4
   refine zfm ho rfl rfl Tryz.func29 (by kernel_rfl) rfl #[.slice none 0 0] (by simp [E4]) ((zrb _).mono ?_)
   rintro _ wy ⟨rfl,hb⟩
   exact ⟨_,rfl,⟨zab J1 hb,by simpa [Upd,updV] using K0,by simpa [Upd,updV] using K1,by simpa [Upd,updV] using K2,by simpa [Upd,updV] using K3,by simpa [Upd,updV] using K4,by simp [updV],by simpa [Upd,updV] using K6,by simpa [Upd,updV] using K7,by simpa [Upd,updV] using K8,by simpa [Upd,updV] using K9,fun h=>by obtain ⟨b,e1,e2,R⟩:=K10 (by simpa [Upd] using h); exact ⟨b,by simpa [updV] using e1,e2,R.below hb⟩,fun h=>by obtain ⟨b,e1,e2,R⟩:=K11 (by simpa [Upd] using h); exact ⟨b,by simpa [updV] using e1,e2,R.below hb⟩,fun h=>by obtain ⟨g,e1,e2,R1,R2⟩:=KA (by simpa [Upd] using h); exact ⟨g,by simpa [updV] using e1,e2,fun h=>(R1 (by simpa [Upd] using h)).below hb,fun h=>by obtain ⟨b,n1,n2,n3,n4⟩:=R2 (by simpa [Upd] using h); exact ⟨b,n1,n2,n3.below hb,n4.below hb⟩⟩,by simpa [Upd,updV] using KS⟩⟩
  ·have X1:a.tmps[1]?.getD undef = .pointer (some ⟨x,0,none⟩):=by
    have h:=hold 1 (by simp) (by intro j hj; rcases j with _ | _ | _ | _ | _ | _ | _ | _ | _ | _ | _ | _ | _ | _ | j <;> simp [dstAt])
    simpa [go_sem] using h
   exact zbf ho rfl (v:=.pointer (some ⟨x,2,none⟩)) (by go_simp) ⟨J1,by simpa [Upd,updV] using K0,by simpa [Upd,updV] using K1,by simpa [Upd,updV] using K2,by simpa [Upd,updV] using K3,by simpa [Upd,updV] using K4,by simpa [Upd,updV] using K5,by simp [updV],by simpa [Upd,updV] using K7,by simpa [Upd,updV] using K8,by simpa [Upd,updV] using K9,by simpa [Upd,updV] using K10,by simpa [Upd,updV] using K11,by simpa [Upd,updV] using KA,by simpa [Upd,updV] using KS⟩
  ·have p6:=hpre 6 (by decide)
   have E6:=(hev 6 10 p6 rfl (by simp) (by simp)).trans (K6 p6)
   have e6:a.tmps[10]?.getD undef = .pointer (some ⟨x,2,none⟩):=by simpa [go_sem] using E6
   have RX':=RX.below J1
   have c0:wx.cell? ⟨x,2,none⟩ = some (.int .i16 0):=RX'.cell 2
   exact zbf ho rfl (v:=.int .i16 0) (by go_simp) ⟨J1,by simpa [Upd,updV] using K0,by simpa [Upd,updV] using K1,by simpa [Upd,updV] using K2,by simpa [Upd,updV] using K3,by simpa [Upd,updV] using K4,by simpa [Upd,updV] using K5,by simpa [Upd,updV] using K6,by simp [updV],by simpa [Upd,updV] using K8,by simpa [Upd,updV] using K9,by simpa [Upd,updV] using K10,by simpa [Upd,updV] using K11,by simpa [Upd,updV] using KA,by simpa [Upd,updV] using KS⟩
  ·have X1:a.tmps[1]?.getD undef = .pointer (some ⟨x,0,none⟩):=by
    have h:=hold 1 (by simp) (by intro j hj; rcases j with _ | _ | _ | _ | _ | _ | _ | _ | _ | _ | _ | _ | _ | _ | j <;> simp [dstAt])
    simpa [go_sem] using h
   exact zbf ho rfl (v:=.pointer (some ⟨x,3,none⟩)) (by go_simp) ⟨J1,by simpa [Upd,updV] using K0,by simpa [Upd,updV] using K1,by simpa [Upd,updV] using K2,by simpa [Upd,updV] using K3,by simpa [Upd,updV] using K4,by simpa [Upd,updV] using K5,by simpa [Upd,updV] using K6,by simpa [Upd,updV] using K7,by simp [updV],by simpa [Upd,updV] using K9,by simpa [Upd,updV] using K10,by simpa [Upd,updV] using K11,by simpa [Upd,updV] using KA,by simpa [Upd,updV] using KS⟩
  ·have p8:=hpre 8 (by decide)
   have E8:=(hev 8 12 p8 rfl (by simp) (by simp)).trans (K8 p8)
   have e8:a.tmps[12]?.getD undef = .pointer (some ⟨x,3,none⟩):=by simpa [go_sem] using E8
   have RX':=RX.below J1
   have c0:wx.cell? ⟨x,3,none⟩ = some (.slice none 0 0):=RX'.cell 3
   exact zbf ho rfl (v:=.slice none 0 0) (by go_simp) ⟨J1,by simpa [Upd,updV] using K0,by simpa [Upd,updV] using K1,by simpa [Upd,updV] using K2,by simpa [Upd,updV] using K3,by simpa [Upd,updV] using K4,by simpa [Upd,updV] using K5,by simpa [Upd,updV] using K6,by simpa [Upd,updV] using K7,by simpa [Upd,updV] using K8,by simp [updV],by simpa [Upd,updV] using K10,by simpa [Upd,updV] using K11,by simpa [Upd,updV] using KA,by simpa [Upd,updV] using KS⟩
  ·have p7:=hpre 7 (by decide)
   have E7:=(hev 7 11 p7 rfl (by simp) (by simp)).trans (K7 p7)
   have e7:a.tmps[11]?.getD undef = .int .i16 0:=by simpa [go_sem] using E7
   have p9:=hpre 9 (by decide)
   have E9:=(hev 9 13 p9 rfl (by simp) (by simp)).trans (K9 p9)
   have e9:a.tmps[13]?.getD undef = .slice none 0 0:=by simpa [go_sem] using E9
   refine zfm ho rfl rfl Tryz.func30 (by kernel_rfl) rfl #[.int .i16 0,.slice none 0 0] (by simp [E7,E9]) ((make8r _).mono ?_)
   rintro _ wy ⟨b,rfl,hbx,RB,hb⟩
   skip
   exact ⟨_,rfl,⟨zab J1 hb,by simpa [Upd,updV] using K0,by simpa [Upd,updV] using K1,by simpa [Upd,updV] using K2,by simpa [Upd,updV] using K3,by simpa [Upd,updV] using K4,by simpa [Upd,updV] using K5,by simpa [Upd,updV] using K6,by simpa [Upd,updV] using K7,by simpa [Upd,updV] using K8,by simpa [Upd,updV] using K9,fun _=>⟨b,by simp [updV],Nat.le_trans J1.size hbx,RB⟩,fun h=>by obtain ⟨b,e1,e2,R⟩:=K11 (by simpa [Upd] using h); exact ⟨b,by simpa [updV] using e1,e2,R.below hb⟩,fun h=>by obtain ⟨g,e1,e2,R1,R2⟩:=KA (by simpa [Upd] using h); exact ⟨g,by simpa [updV] using e1,e2,fun h=>(R1 (by simpa [Upd] using h)).below hb,fun h=>by obtain ⟨b,n1,n2,n3,n4⟩:=R2 (by simpa [Upd] using h); exact ⟨b,n1,n2,n3.below hb,n4.below hb⟩⟩,by simpa [Upd,updV] using KS⟩⟩
  ·have p2:=hpre 2 (by decide)
   have E2:=(hev 2 6 p2 rfl (by simp) (by simp)).trans (K2 p2)
   have e2:a.tmps[6]?.getD undef = .slice none 0 0:=by simpa [go_sem] using E2
   have p5:=hpre 5 (by decide)
   have E5:=(hev 5 9 p5 rfl (by simp) (by simp)).trans (K5 p5)
   have e5:a.tmps[9]?.getD undef = .slice none 0 0:=by simpa [go_sem] using E5
   have p10:=hpre 10 (by decide)
   obtain ⟨b,v10,hbx,RB⟩:=K10 p10
   have E10:=(hev 10 14 p10 rfl (by simp) (by simp)).trans v10
   have e10:a.tmps[14]?.getD undef = .agg #[.slice (some ⟨b,0,none⟩) 1 1,.int .i32 31]:=by simpa [go_sem] using E10
   exact zbf ho rfl (v:=.agg #[.slice none 0 0,.slice none 0 0,.slice (some ⟨b,0,none⟩) 1 1,.int .i32 31]) (by go_simp) ⟨J1,by simpa [Upd,updV] using K0,by simpa [Upd,updV] using K1,by simpa [Upd,updV] using K2,by simpa [Upd,updV] using K3,by simpa [Upd,updV] using K4,by simpa [Upd,updV] using K5,by simpa [Upd,updV] using K6,by simpa [Upd,updV] using K7,by simpa [Upd,updV] using K8,by simpa [Upd,updV] using K9,fun _=>⟨b,by simpa [updV] using v10,hbx,RB⟩,fun _=>⟨b,by simp [updV],hbx,RB⟩,by simpa [Upd,updV] using KA,fun h=>by have k:=KS (by simpa [Upd] using h); simp [Upd,k.1]⟩
  ·refine zst ho rfl 41 rfl _ zmy ?_
   intro g wy hg R hb
   have ns:¬ L 13 = true:=fun h=>by rw [(KS h).1] at hL; cases hL
   exact ⟨zab J1 hb,by simpa [Upd,updV] using K0,by simpa [Upd,updV] using K1,by simpa [Upd,updV] using K2,by simpa [Upd,updV] using K3,by simpa [Upd,updV] using K4,by simpa [Upd,updV] using K5,by simpa [Upd,updV] using K6,by simpa [Upd,updV] using K7,by simpa [Upd,updV] using K8,by simpa [Upd,updV] using K9,fun h=>by obtain ⟨b,e1,e2,R⟩:=K10 (by simpa [Upd] using h); exact ⟨b,by simpa [updV] using e1,e2,R.below hb⟩,fun h=>by obtain ⟨b,e1,e2,R⟩:=K11 (by simpa [Upd] using h); exact ⟨b,by simpa [updV] using e1,e2,R.below hb⟩,fun _=>⟨g,by simp [updV],Nat.le_trans J1.size hg,fun _=>R,fun h=>absurd (by simpa [Upd] using h) ns⟩,fun h=>absurd (by simpa [Upd] using h) ns⟩
  ·have p12:=hpre 12 (by decide)
   have p11:=hpre 11 (by decide)
   obtain ⟨g,v12,hg,R1,_⟩:=KA p12
   have RG:=R1 hL
   obtain ⟨b,v11,hbx,RB⟩:=K11 p11
   have hbg:b ≠ g:=fun e=>by
    subst e
    have h:=RB.symm.trans RG
    simp at h
   have ep:=(hev 12 3 p12 rfl (by simp) (by simp)).trans v12
   have ev:=(hev 11 15 p11 rfl (by simp) (by simp)).trans v11
   refine zss ho rfl 41 _ _ rfl g _ ep ev RG (by kernel_rfl) rfl (by simp [Value.oneCell']) ?_
   intro wy RZ S
   have RB':Row wy b #[.int .i32 0] 37:=(S.other b hbg).trans RB
   skip
   exact ⟨S.below J1 hg,by simpa [Upd,updV] using K0,by simpa [Upd,updV] using K1,by simpa [Upd,updV] using K2,by simpa [Upd,updV] using K3,by simpa [Upd,updV] using K4,by simpa [Upd,updV] using K5,by simpa [Upd,updV] using K6,by simpa [Upd,updV] using K7,by simpa [Upd,updV] using K8,by simpa [Upd,updV] using K9,fun h=>by obtain ⟨b2,e1,e2,R2⟩:=K10 (by simpa [Upd] using h); exact ⟨b2,by simpa [updV] using e1,e2,(S.other b2 (fun e=>by subst e; have h:=R2.symm.trans RG; simp at h)).trans R2⟩,fun h=>by obtain ⟨b2,e1,e2,R2⟩:=K11 (by simpa [Upd] using h); exact ⟨b2,by simpa [updV] using e1,e2,(S.other b2 (fun e=>by subst e; have h:=R2.symm.trans RG; simp at h)).trans R2⟩,fun _=>⟨g,by simpa [updV] using v12,hg,fun h=>by simp [Upd] at h,fun _=>⟨b,hbg,hbx,RB',RZ⟩⟩,fun _=>by simp [Upd,p12,p11]⟩
 ·rintro V wx ⟨J1,K0,K1,K2,K3,K4,K5,K6,K7,K8,K9,K10,K11,KA,KS⟩
  have v0:=K0 rfl
  have v1:=K1 rfl
  have v2:=K2 rfl
  have v3:=K3 rfl
  have v4:=K4 rfl
  have v5:=K5 rfl
  have v6:=K6 rfl
  have v7:=K7 rfl
  have v8:=K8 rfl
  have v9:=K9 rfl
  obtain ⟨b10,v10,_,_⟩:=K10 rfl
  obtain ⟨b11,v11,_,_⟩:=K11 rfl
  obtain ⟨g,v12,hg,_,RN⟩:=KA rfl
  obtain ⟨b,hbg,hbx,RB,RG⟩:=RN rfl
  clear K0 K1 K2 K3 K4 K5 K6 K7 K8 K9 K10 K11 KA KS RN
  simp only [fill,if_true,dstAt,v0,v1,v2,v3,v4,v5,v6,v7,v8,v9,v10,v11,v12]
  simp [Act.put]
  clear v0 v1 v2 v3 v4 v5 v6 v7 v8 v9 v10 v11 v12 V
  have c0:wx.cell? ⟨g,0,none⟩ = some (.slice none 0 0):=RG.cell 0
  have cA:(wx.alloc (.cells #[.int .u32 7,.string ⟨#[67,97,115,104]⟩,.int .u8 0,.int .u32 0] 61)).cell? ⟨g,0,none⟩ = some (.slice none 0 0):=(RG.alloc _).cell 0
  have fA:(wx.alloc (.cells #[.int .u32 7,.string ⟨#[67,97,115,104]⟩,.int .u8 0,.int .u32 0] 61)).frozen? ⟨g,0,none⟩ = false:=(RG.alloc _).frozen 0
  obtain ⟨w1,hw1⟩:∃ w1,w1 = (wx.alloc (.cells #[.int .u32 7,.string ⟨#[67,97,115,104]⟩,.int .u8 0,.int .u32 0] 61)).setCell ⟨g,0,none⟩ (.slice (some ⟨wx.heap.size,0,none⟩) 1 1):=⟨_,rfl⟩
  have RC1:Row w1 wx.heap.size #[.int .u32 7,.string ⟨#[67,97,115,104]⟩,.int .u8 0,.int .u32 0] 61:=by rw [hw1]; exact (Row.new wx #[.int .u32 7,.string ⟨#[67,97,115,104]⟩,.int .u8 0,.int .u32 0] 61).other ⟨g,0,none⟩ (by have:=RG.lt; show _ ≠ g; omega) _
  have RG1:Row w1 g #[.slice (some ⟨wx.heap.size,0,none⟩) 1 1,.slice none 0 0,.slice (some ⟨b,0,none⟩) 1 1,.int .i32 31] 41:=by rw [hw1]; exact (RG.alloc _).set 0 _
  have RB1:Row w1 b #[.int .i32 0] 37:=by rw [hw1]; exact (RB.alloc _).other ⟨g,0,none⟩ hbg _
  have BB1:Below w.heap.size w w1:=by rw [hw1]; exact zar (zaa (zab HB.out J1) _) (Nat.le_trans HB.out.size hg) 0 _
  have RR1:Row w1 y #[.slice none 0 0,.slice none 0 0,.slice none 0 0,.int .i32 0] 41:=by rw [hw1]; exact ((RR.below J1).alloc _).other ⟨g,0,none⟩ (by have:=RR.lt; show y ≠ g; omega) _
  have hyg:y ≠ g:=by have:=RR.lt; omega
  have hyx:y = w.heap.size + 1:=HXY.out.2
  have hgw:w.heap.size≤g:=Nat.le_trans HB.out.size hg
  have hz1:wx.heap.size < w1.heap.size:=by rw [hw1]; simp
  have c1:w1.cell? ⟨g,1,none⟩ = some (.slice none 0 0):=RG1.cell 1
  have cB:(w1.alloc (.cells #[.int .u16 5] 56)).cell? ⟨g,1,none⟩ = some (.slice none 0 0):=(RG1.alloc _).cell 1
  have fB:(w1.alloc (.cells #[.int .u16 5] 56)).frozen? ⟨g,1,none⟩ = false:=(RG1.alloc _).frozen 1
  have HC1:=hdq RC1
  have HG1:=hdq RG1
  have HB1:=hdq RB1
  have HBB1:=hdq BB1
  have HR1:=hdq RR1
  have HW:=hdq (And.intro hyg (And.intro hyx (And.intro hgw (And.intro hz1 (And.intro hbg RG.lt)))))
  have HE1:=hdq hw1
  clear hw1 RC1 RG1 RB1 BB1 RR1 hyg hyx hgw hz1 hbg hbx hg J1 RX RR RB RG HB HXY
  have HG2:Hid (Row ((w1.alloc (.cells #[.int .u16 5] 56)).setCell ⟨g,1,none⟩ (.slice (some ⟨w1.heap.size,0,none⟩) 1 1)) g #[.slice (some ⟨wx.heap.size,0,none⟩) 1 1,.slice (some ⟨w1.heap.size,0,none⟩) 1 1,.slice (some ⟨b,0,none⟩) 1 1,.int .i32 31] 41):=hdq ((HG1.out.alloc _).set 1 _)
  have HY2:Hid (Row ((w1.alloc (.cells #[.int .u16 5] 56)).setCell ⟨g,1,none⟩ (.slice (some ⟨w1.heap.size,0,none⟩) 1 1)) y #[.slice none 0 0,.slice none 0 0,.slice none 0 0,.int .i32 0] 41):=hdq ((HR1.out.alloc _).other ⟨g,1,none⟩ HW.out.1 _)
  have HC2:Hid (Row ((w1.alloc (.cells #[.int .u16 5] 56)).setCell ⟨g,1,none⟩ (.slice (some ⟨w1.heap.size,0,none⟩) 1 1)) wx.heap.size #[.int .u32 7,.string ⟨#[67,97,115,104]⟩,.int .u8 0,.int .u32 0] 61):=hdq ((HC1.out.alloc _).other ⟨g,1,none⟩ (by have:=HW.out; show _ ≠ g; omega) _)
  have HU2:Hid (Row ((w1.alloc (.cells #[.int .u16 5] 56)).setCell ⟨g,1,none⟩ (.slice (some ⟨w1.heap.size,0,none⟩) 1 1)) w1.heap.size #[.int .u16 5] 56):=hdq ((Row.new w1 #[.int .u16 5] 56).other ⟨g,1,none⟩ (by have:=HW.out; have:=HG1.out.lt; show _ ≠ g; omega) _)
  have HD2:Hid (Row ((w1.alloc (.cells #[.int .u16 5] 56)).setCell ⟨g,1,none⟩ (.slice (some ⟨w1.heap.size,0,none⟩) 1 1)) b #[.int .i32 0] 37):=hdq ((HB1.out.alloc _).other ⟨g,1,none⟩ HW.out.2.2.2.2.1 _)
  have HBB2:Hid (Below w.heap.size w ((w1.alloc (.cells #[.int .u16 5] 56)).setCell ⟨g,1,none⟩ (.slice (some ⟨w1.heap.size,0,none⟩) 1 1))):=hdq (zar (zaa HBB1.out _) HW.out.2.2.1 1 _)
  go_wp2_with (first | (simp only [← HE1.out]) | (refine zaq (N:=29) rfl rfl 41 _ rfl g rfl HG2.out _ Tryz.underlying41 rfl (by kernel_rfl) ?_) | (refine zad rfl 41 _ _ rfl y _ rfl rfl HY2.out (by kernel_rfl) rfl (by simp [Value.oneCell']) rfl ?_; intro w3 RZ S3))
  have hyx:=HW.out.2.1
  have hyw:y < w1.heap.size:=HR1.out.lt
  have hcy:wx.heap.size ≠ y:=fun e=>by have h:=HC2.out.symm.trans (e ▸ HY2.out); simp at h
  have huy:w1.heap.size ≠ y:=by omega
  have hby:b ≠ y:=fun e=>by have h:=HD2.out.symm.trans (e ▸ HY2.out); simp at h
  exact bodyPost_ret (v:=.agg #[.slice (some ⟨wx.heap.size,0,none⟩) 1 1,.slice (some ⟨w1.heap.size,0,none⟩) 1 1,.slice (some ⟨b,0,none⟩) 1 1,.int .i32 31]) (zau rfl _ _ RZ rfl Tryz.underlying41 rfl (by kernel_rfl)) rfl ⟨_,_,_,rfl,(S3.other _ hcy).trans HC2.out,(S3.other _ huy).trans HU2.out,(S3.other _ hby).trans HD2.out,S3.below HBB2.out (by omega)⟩
def zB:Array Value:=#[.slice none 0 0,.slice none 0 0,.int .i16 0,.slice none 0 0,.slice none 0 0]
def bkV (c u b:Nat):Array Value:=#[.slice (some ⟨c,0,none⟩) 1 1,.slice (some ⟨u,0,none⟩) 1 1,.slice (some ⟨b,0,none⟩) 1 1,.int .i32 31,.slice none 0 0]
def bk0:Array Value:=#[.slice none 0 0,.slice none 0 0,.slice none 0 0,.int .i32 0,.slice none 0 0]
def Bk (w:World) (c u b:Nat):Prop:=Row w c #[.int .u32 7,.string ⟨#[67,97,115,104]⟩,.int .u8 0,.int .u32 0] 61∧Row w u #[.int .u16 5] 56∧Row w b #[.int .i32 0] 37
theorem Bk.below {w w':World} {c u b:Nat} (h:Bk w c u b) (hb:Below w.heap.size w w'):Bk w' c u b:=⟨h.1.below hb,h.2.1.below hb,h.2.2.below hb⟩
theorem Bk.stored {w w':World} {c u b g:Nat} (h:Bk w c u b) (hs:Stored w g w') {cs:Array Value} (hg:Row w g cs 74):Bk w' c u b:=by
 refine ⟨(hs.other c fun e=>?_).trans h.1,(hs.other u fun e=>?_).trans h.2.1,(hs.other b fun e=>?_).trans h.2.2⟩
 ·have h:=h.1.symm.trans (e ▸ hg); simp at h
 ·have h:=h.2.1.symm.trans (e ▸ hg); simp at h
 ·have h:=h.2.2.symm.trans (e ▸ hg); simp at h
set_option maxHeartbeats 1000000 in
theorem make10 (w:World):Calls Tryz.prog 23 #[.agg zB] w fun e w'=>∃ c u b,e = .returned (.agg (bkV c u b))∧Bk w' c u b∧Below w.heap.size w w':=by
 go_enter Tryz.func23,Tryz.ntmps23
 unfold zB
 have RX:=Row.new w zB 28
 have RX:=RX.alloc (.cells bk0 74)
 have RY:=Row.new' (w.alloc (.cells zB 28)) bk0 74 (g:=w.heap.size + 1) (by simp)
 have HB:=hdq (zaa (zaa (Below.refl _ w) (.cells zB 28)) (.cells bk0 74))
 unfold zB bk0 at *
 go_wp2_with (first | (refine zaq (N:=8) rfl rfl 28 _ rfl w.heap.size rfl RX _ Tryz.underlying28 rfl (by kernel_rfl) ?_))
 generalize (w.alloc (.cells #[.slice none 0 0,.slice none 0 0,.int .i16 0,.slice none 0 0,.slice none 0 0] 28)).alloc (.cells #[.slice none 0 0,.slice none 0 0,.slice none 0 0,.int .i32 0,.slice none 0 0] 74) = w0 at *
 refine (frame10 w0).mono ?_
 rintro _ w1 ⟨c,u,b,rfl,RC,RU,RB,hb⟩
 have HK1:=hdq (show Bk w1 c u b from ⟨RC,RU,RB⟩)
 have HB1:=hdq (zab HB.out hb)
 have RX1:=RX.below hb
 have RY1:=RY.below hb
 obtain ⟨y,hy⟩:∃ y,y = w.heap.size + 1:=⟨_,rfl⟩
 obtain ⟨x,hx⟩:∃ x,x = w.heap.size:=⟨_,rfl⟩
 rw [← hy] at RY1 ⊢
 rw [← hx] at RX1 ⊢
 have HY:=hdq (And.intro hx hy)
 clear RX RY RC RU RB hb HB hx hy
 have hyl:=RY1.lt
 have hxl:=RX1.lt
 have HL:=hdq (And.intro hyl hxl)
 have HX1:=hdq RX1
 have HY1:=hdq RY1
 clear hyl hxl RX1 RY1
 go_wp2_with (first | (refine zal (N:=3) rfl rfl 74 rfl #[.slice none 0 0,.slice none 0 0,.slice none 0 0,.int .i32 0,.slice none 0 0] (fun w=>by kernel_rfl) ?_; intro g w2 hg RG B2) | (refine zad rfl 74 _ _ rfl g (bkV c u b) rfl rfl RG (by unfold bkV; kernel_rfl) rfl (by simp [bkV,Value.oneCell']) rfl ?_; intro w3 RZ S3; have HK3:=hdq ((HK1.out.below B2).stored S3 RG); have hxg:x ≠ g:=(by have:=HL.out; omega); have hyg:y ≠ g:=(by have:=HL.out; omega); have HX3:=hdq ((S3.other x hxg).trans (HX1.out.below B2)); have HY3:=hdq ((S3.other y hyg).trans (HY1.out.below B2)); have HBB3:=hdq (S3.below (zab HB1.out B2) (Nat.le_trans HB1.out.size hg)); have d0:w3.cell? ⟨g,2,none⟩ = some (.slice (some ⟨b,0,none⟩) 1 1):=RZ.cell 2; have d1:w3.cell? ⟨b,0,none⟩ = some (.int .i32 0):=HK3.out.2.2.cell 0; have d2:w3.cell? ⟨x,4,none⟩ = some (.slice none 0 0):=Row.cell HX3.out 4; have HN:=hdq (And.intro hyg hg); clear hxg hyg S3 B2 hg))
 refine wp_loop_rounds 1 ?_
 rw [rounds_succ]
 go_wp2_with (first | (refine zaq (N:=52) rfl rfl 74 _ rfl g rfl RZ _ Tryz.underlying74 rfl (by unfold bkV; kernel_rfl) ?_) | (refine zad rfl 74 _ _ rfl y (bkV c u b) rfl rfl HY3.out (by unfold bkV; kernel_rfl) rfl (by simp [bkV,Value.oneCell']) rfl ?_; intro w4 RZ4 S4))
 exact bodyPost_ret (v:=.agg (bkV c u b)) (zau rfl _ _ RZ4 rfl Tryz.underlying74 rfl (by unfold bkV; kernel_rfl)) rfl ⟨_,_,_,rfl,HK3.out.stored S4 HY3.out,S4.below HBB3.out (by have:=HY.out; omega)⟩
end Go.Proofs.YtlpdfglbdijkoaaGreatDoor