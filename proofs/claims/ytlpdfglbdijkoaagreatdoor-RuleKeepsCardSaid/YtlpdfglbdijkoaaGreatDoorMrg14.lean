/-
  Own texts, several in one (Chk10, Cal10, Awake10, Codec).
-/
import Derived.Test.YtlpdfglbdijkoaaGreatDoorMrg13
import Derived.Deep.QuietTactic
import Derived.BigQuiet
import Derived.Lib.SmallJoins
namespace Go.Proofs.YtlpdfglbdijkoaaGreatDoor
open Go.RowKit
set_option linter.unusedVariables false
set_option linter.unusedSimpArgs false
theorem days10 (c u b:Nat) (w:World):Calls Tryz.prog 42 #[.agg (bkV c u b)] w fun e w'=>e = .returned (.tuple #[.int .i32 0,.int .i32 0,.bool false])∧Below w.heap.size w w':=by
 have RX:=Row.new w (bkV c u b) 74
 have c4:(w.alloc (.cells (bkV c u b) 74)).cell? ⟨w.heap.size,4,none⟩ = some (.slice none 0 0):=RX.cell 4
 have HB:=hdq (zaa (Below.refl _ w) (.cells (bkV c u b) 74))
 clear RX
 unfold bkV at *
 go_enter Tryz.func42,Tryz.ntmps42
 go_wp2_with fail
 exact bodyPost_ret (v:=.tuple #[.int .i32 0,.int .i32 0,.bool false]) (by simp [results,Tryz.results42,go_sem]) rfl ⟨rfl,HB.out⟩
theorem code_5 (w:World):Calls Tryz.prog 69 #[.int .u16 5] w fun e w'=>e = .returned (.bool true)∧w' = w:=by
 go_enter Tryz.func69,Tryz.ntmps69
 go_wp2
 go_ret
 exact ⟨rfl,rfl⟩
theorem ucheck10 (u:Nat) (w:World) (hU:Row w u #[.int .u16 5] 56):Calls Tryz.prog 38 #[.slice (some ⟨u,0,none⟩) 1 1] w fun e w'=>e = .returned (.int .i64 0)∧Below w.heap.size w w':=by
 have c0:w.cell? ⟨u,0,none⟩ = some (.int .u16 5):=hU.cell 0
 clear hU
 go_enter Tryz.func38,Tryz.ntmps38
 go_wp2_with fail
 refine wp_loop_rounds 2 ?_
 rw [rounds_succ]
 go_wp2_with (go_at_call 69; refine (code_5 _).mono ?_; rintro _ _ ⟨rfl,rfl⟩)
 rw [rounds_succ]
 go_wp2_with fail
 go_ret
 exact ⟨rfl,Below.refl _ _⟩
theorem acode_7 (w:World):Calls Tryz.prog 73 #[.int .u32 7] w fun e w'=>e = .returned (.bool true)∧w' = w:=by
 go_enter Tryz.func73,Tryz.ntmps73
 go_wp2
 go_ret
 exact ⟨rfl,rfl⟩
def cashB:ByteArray:=⟨#[67,97,115,104]⟩
set_option maxHeartbeats 1000000 in
theorem zqr (w:World):Calls Tryz.prog 18 #[.string ⟨#[67,97,115,104]⟩] w fun e w'=>e = .returned (.bool true)∧Below w.heap.size w w':=by
 show Calls Tryz.prog 18 #[.string cashB] w fun e w'=>e = .returned (.bool true)∧Below w.heap.size w w'
 have n0:∀ ty,(Instr.next (.pointer (some ⟨w.heap.size,0,none⟩)) true ty).run Tryz.prog (w.iter cashB 0) = .ok (.tuple #[.bool true,.int .i64 0,.int .i32 67]) (w.iter cashB 1):=fun ty=>run_next_ascii w cashB 0 ty (by decide) (by decide)
 have n1:∀ ty,(Instr.next (.pointer (some ⟨w.heap.size,0,none⟩)) true ty).run Tryz.prog (w.iter cashB 1) = .ok (.tuple #[.bool true,.int .i64 1,.int .i32 97]) (w.iter cashB 2):=fun ty=>run_next_ascii w cashB 1 ty (by decide) (by decide)
 have n2:∀ ty,(Instr.next (.pointer (some ⟨w.heap.size,0,none⟩)) true ty).run Tryz.prog (w.iter cashB 2) = .ok (.tuple #[.bool true,.int .i64 2,.int .i32 115]) (w.iter cashB 3):=fun ty=>run_next_ascii w cashB 2 ty (by decide) (by decide)
 have n3:∀ ty,(Instr.next (.pointer (some ⟨w.heap.size,0,none⟩)) true ty).run Tryz.prog (w.iter cashB 3) = .ok (.tuple #[.bool true,.int .i64 3,.int .i32 104]) (w.iter cashB 4):=fun ty=>run_next_ascii w cashB 3 ty (by decide) (by decide)
 have n4:∀ ty,(Instr.next (.pointer (some ⟨w.heap.size,0,none⟩)) true ty).run Tryz.prog (w.iter cashB 4) = .ok (.tuple #[.bool false]) (w.iter cashB 4):=fun ty=>run_next_end w cashB 4 ty (by decide)
 have hs:cashB.size = 4:=rfl
 have g0:∀ h,(cashB.get 0 h).toNat = 67:=fun _=>rfl
 have g3:∀ h,(cashB.get 3 h).toNat = 104:=fun _=>rfl
 have b0:∀ h,(cashB[0]'h).toNat = 67:=fun _=>rfl
 have b3:∀ h,(cashB[3]'h).toNat = 104:=fun _=>rfl
 go_enter Tryz.func18,Tryz.ntmps18
 go_wp2_with fail
 refine wp_loop_rounds 5 ?_
 rw [rounds_succ]
 go_wp2_with fail
 rw [rounds_succ]
 go_wp2_with fail
 rw [rounds_succ]
 go_wp2_with fail
 rw [rounds_succ]
 go_wp2_with fail
 rw [rounds_succ]
 go_wp2_with fail
 exact bodyPost_ret (v:=.bool true) (by simp [results,Tryz.results18,go_sem]) rfl ⟨rfl,zaa (Below.refl _ w) _⟩
set_option maxHeartbeats 1000000 in
theorem ccheck10 (c:Nat) (w:World) (hC:Row w c #[.int .u32 7,.string ⟨#[67,97,115,104]⟩,.int .u8 0,.int .u32 0] 61):Calls Tryz.prog 44 #[.slice (some ⟨c,0,none⟩) 1 1] w fun e w'=>e = .returned (.int .i64 0)∧Below w.heap.size w w':=by
 have HC:=hdq hC
 have HLT:=hdq hC.lt
 clear hC
 go_enter Tryz.func44,Tryz.ntmps44
 go_wp2_with fail
 refine wp_loop_rounds 2 ?_
 rw [rounds_succ]
 go_wp2_with (first | (refine zaq (N:=18) rfl rfl 61 _ rfl c rfl HC.out _ Tryz.underlying61 rfl (by kernel_rfl) ?_) | (refine zal (N:=4) rfl rfl 61 rfl #[.int .u32 0,.string ByteArray.empty,.int .u8 0,.int .u32 0] (fun w=>by kernel_rfl) ?_; intro g w1 hg RG B1; have HB1:=hdq B1; have HG:=hdq hg; have HC1:=hdq (HC.out.below B1); clear B1 hg) | (refine zad rfl 61 _ _ rfl g #[.int .u32 7,.string ⟨#[67,97,115,104]⟩,.int .u8 0,.int .u32 0] rfl rfl RG (by kernel_rfl) rfl (by simp [Value.oneCell']) rfl ?_; intro w2 RZ S2; have c0:w2.cell? ⟨g,0,none⟩ = some (.int .u32 7):=RZ.cell 0; have c1:∀ n,(w2.drewN n).cell? ⟨g,1,none⟩ = some (.string ⟨#[67,97,115,104]⟩):=fun n=>(RZ.drewN n).cell 1; have HZ:=hdq RZ; have HB2:=hdq (S2.below HB1.out HG.out); have HC2:=hdq ((S2.other c (by have:=HG.out; have:=HLT.out; omega)).trans HC1.out); clear RZ S2 RG) | (go_at_call 73; refine (acode_7 _).mono ?_; rintro _ _ ⟨rfl,rfl⟩))
 go_quiet (fail)
 go_wp2_with fail
 refine (zqr _).mono ?_
 rintro _ w3 ⟨rfl,hb⟩
 have RZ3:=(HZ.out.drewN _).below hb
 have c2:w3.cell? ⟨g,2,none⟩ = some (.int .u8 0):=RZ3.cell 2
 have HC3:=hdq (Row.below (Row.drewN HC2.out _) hb)
 have HB3:=hdq (zab (zeq HB2.out _) hb)
 clear RZ3 hb
 go_wp2_with fail
 rw [rounds_succ]
 go_wp2_with fail
 refine wp_loop_rounds 2 ?_
 rw [rounds_succ]
 go_wp2_with (first | (refine zaq (N:=53) rfl rfl 61 _ rfl c rfl HC3.out _ Tryz.underlying61 rfl (by kernel_rfl) ?_) | (refine zal (N:=6) rfl rfl 61 rfl #[.int .u32 0,.string ByteArray.empty,.int .u8 0,.int .u32 0] (fun w=>by kernel_rfl) ?_; intro g2 w4 hg RG B1; have HB4:=hdq (zab HB3.out B1); have HG4:=hdq (Nat.le_trans HB3.out.size hg); clear B1 hg) | (refine zad rfl 61 _ _ rfl g2 #[.int .u32 7,.string ⟨#[67,97,115,104]⟩,.int .u8 0,.int .u32 0] rfl rfl RG (by kernel_rfl) rfl (by simp [Value.oneCell']) rfl ?_; intro w5 RZ S2; have c3:w5.cell? ⟨g2,3,none⟩ = some (.int .u32 0):=RZ.cell 3; have HB5:=hdq (S2.below HB4.out HG4.out); clear RZ S2 RG))
 rw [rounds_succ]
 go_wp2_with fail
 exact bodyPost_ret (v:=.int .i64 0) (by simp [results,Tryz.results44,go_sem]) rfl ⟨rfl,HB5.out⟩
def renD:Go.Shelf.Ren:=⟨fun | 41=>70 | n=>n,fun | 22=>36 | 23=>37 | 4=>4 | n=>n,fun | n=>n⟩
theorem laysD:SlLaysE0.n41 Tryz.prog renD:={
 mixed:=by kernel_rfl
 f41:=⟨Tryz.f70.name,by decide,Tryz.func70.trans (congrArg some (by kernel_rfl))⟩
 t4:=Tryz.underlying4
 a4:=Tryz.isAgg4
 z4:=Tryz.sizeOf4
 v4:=Tryz.zeroValue4
 t22:=Tryz.underlying36
 a22:=Tryz.isAgg36
 z22:=Tryz.sizeOf36
 v22:=Tryz.zeroValue36 }
theorem zmk:∃ i,Tryz.prog.info? 37 = some i∧i.zero = some (.int .i32 0)∧i.size = 1∧i.bytes = 4:=by
 have h:(Tryz.prog.info? 37).map (fun i=>(i.zero,i.size,i.bytes)) = some (some (.int .i32 0),1,4):=by kernel_rfl
 obtain ⟨i,hi,h⟩:=Option.map_eq_some_iff.1 h
 simp only [Prod.mk.injEq] at h
 exact ⟨i,hi,h.1,h.2.1,h.2.2⟩
theorem NsAt.cells' {k:IntKind} {w:World} {b off:Nat} {xs:List Int} (h:∀ i,i < xs.length→w.cell? ⟨b,off + i,none⟩ = some (.int k (xs.getD i 0))):∀ j u,(nv k xs)[j]? = some u→w.cell? ⟨b,off + j,none⟩ = some u:=by
 intro j u hj
 unfold nv at hj
 rw [List.getElem?_map] at hj
 obtain ⟨z,hz,rfl⟩:=Option.map_eq_some_iff.1 hj
 have hlt:j < xs.length:=(List.getElem?_eq_some_iff.1 hz).1
 have:=h j hlt
 rwa [List.getD_eq_getElem?_getD,hz] at this
theorem zjo (b off n c:Nat) (xs:List Int) (w:World) (h:∀ i,i < xs.length→w.cell? ⟨b,off + i,none⟩ = some (.int .i32 (xs.getD i 0))) (hl:xs.length = n) (hn:n≤100000) :
  Calls Tryz.prog 70 #[.slice (some ⟨b,off,none⟩) n c] w fun e w'=>∃ v,e = .returned v∧w'.ownsRow w.heap.size 37 1 v n (nv .i32 xs)∧Below w.heap.size w w':=by
 obtain ⟨i,hi,h1,h2,h3⟩:=zmk
 have z:∀ w,(Go.sizeOf 37).run Tryz.prog w = .ok 1 w:=fun w=>by kernel_rfl
 refine (AnyE.slices_Clone laysD i (.int .i32 0) 1 4 hi h1 h2 h3 rfl (by omega) z b off n c (nv .i32 xs) w (by rw [zbs,hl,Nat.mul_one]) (by unfold maxLen; omega) (by omega) (NsAt.cells' h) (ziw _ _)).mono ?_
 rintro e w' ⟨v,rfl,ho,_,hb⟩
 exact ⟨v,rfl,ho,hb⟩
theorem zgv (W:World) (B:Nat) (ty:TypeId) (v:Value) (n:Nat) (xs:List Int) (hown:W.ownsRow B 37 1 v n (nv .i32 xs)) (g:Nat) (z:Int) (RG:Row W g #[.int .i32 z] 37) (hn:n≤100000) (hB:B≤W.heap.size) :
  ∃ v' w',(Builtin.append_ #[36,36] ty #[v,.slice (some ⟨g,0,none⟩) 1 1]).run Tryz.prog W = .ok v' w'∧w'.ownsRow B 37 1 v' (n + 1) (nv .i32 (xs ++ [z]))∧Below B W w':=by
 obtain ⟨i,hi,h1,h2,h3⟩:=zmk
 obtain ⟨v',w',hr,k2,k3,k4,k5⟩:=run_append_own_at (P:=Tryz.prog) W B 36 ty 37 i (.int .i32 0) 1 4 Tryz.underlying36 hi h1 h2 h3 rfl (by omega) v n (nv .i32 xs) hown ⟨g,0,none⟩ 1 1 [.int .i32 z] rfl (fun j u hj=>by
  rcases j with _ | j
  ·simp at hj
   subst hj
   rw [show (⟨g,0,none⟩:Addr).add 0 = ⟨g,0,none⟩ from rfl,RG.cell 0]
   rfl
  ·simp at hj) (fun u hu=>by simp at hu; subst hu; rfl) (by unfold maxLen; omega) (by omega) hB
 refine ⟨v',w',hr,by unfold nv at k2 ⊢; rwa [List.map_append],(Below.refl B W).grown k3 hB ?_⟩
 intro k hk
 rcases hown.2 with ⟨rfl,_⟩ | ⟨g,cap,cur,rfl,hg,_⟩
 ·simp [Value.ownBlock] at hk
 ·simp [Value.ownBlock] at hk
  omega
def CalI (w0:World) (x b:Nat) (L:Nat→Bool) (V:Nat→Value) (w':World):Prop :=
 Below w0.heap.size w0 w'∧(L 0 = true→V 0 = .pointer (some ⟨x,0,none⟩))∧(L 1 = true→V 1 = .slice (some ⟨b,0,none⟩) 1 1)∧(L 2 = true→L 6 = false→w'.ownsRow w0.heap.size 37 1 (V 2) 1 (nv .i32 [0]))∧(L 3 = true→V 3 = .pointer (some ⟨x,1,none⟩))∧(L 4 = true→V 4 = .int .i32 31)∧(L 5 = true→L 6 = false→∃ g,V 5 = .slice (some ⟨g,0,none⟩) 1 1∧w0.heap.size≤g∧Row w' g #[.int .i32 31] 37)∧(L 6 = true→w'.ownsRow w0.heap.size 37 1 (V 6) 2 (nv .i32 [0,31]))∧(L 7 = true→L 6 = true∧V 7 = V 6)
set_option maxHeartbeats 2000000 in
theorem calcheck10 (b:Nat) (w:World) (hB:Row w b #[.int .i32 0] 37) (hG:Glb5 w):Calls Tryz.prog 39 #[.agg #[.slice (some ⟨b,0,none⟩) 1 1,.int .i32 31]] w fun e w'=>e = .returned (.int .i64 0)∧Below w.heap.size w w':=by
 have RX:=Row.new w #[.slice (some ⟨b,0,none⟩) 1 1,.int .i32 31] 39
 have BW:=zaa (Below.refl _ w) (.cells #[.slice (some ⟨b,0,none⟩) 1 1,.int .i32 31] 39)
 have HBW:=hdq BW
 have HG:=hdq (hG.below BW)
 have RB:=hB.below BW
 have x0:(w.alloc (.cells #[.slice (some ⟨b,0,none⟩) 1 1,.int .i32 31] 39)).cell? ⟨w.heap.size,0,none⟩ = some (.slice (some ⟨b,0,none⟩) 1 1):=RX.cell 0
 clear hB hG BW
 go_enter Tryz.func39,Tryz.ntmps39
 go_wp2_with fail
 generalize w.alloc (.cells #[.slice (some ⟨b,0,none⟩) 1 1,.int .i32 31] 39) = w0 at *
 have HXL:=hdq (Nat.le_of_lt RX.lt)
 obtain ⟨x,hxe⟩:∃ x,x = w.heap.size:=⟨_,rfl⟩
 rw [← hxe] at RX x0 ⊢
 clear hxe
 have HB0:Hid (∀ wx,Below w0.heap.size w0 wx→∀ i,i < [0].length→wx.cell? ⟨b,0 + i,none⟩ = some (.int .i32 ([0].getD i 0))):=hdq fun wx J i hi=>by
  have hi:i < 1:=hi
  obtain rfl:i = 0:=by omega
  exact (RB.below J).cell 0
 clear RB x0
 refine zcn (n:=8) (by kernel_rfl) (CalI w0 x b) (by kernel_rfl) ?_ ?_ rfl ?_
 ·refine ⟨zat (Below.refl _ _),?_,?_,?_,?_,?_,?_,?_,?_⟩ <;> (intro h; simp at h)
 ·intro i o ho
  rcases i with _ | _ | _ | _ | _ | _ | _ | _ | i
  all_goals (first | (simp at ho; done) | (obtain rfl:=Option.some.inj ho))
  all_goals (rintro L V wx hL hpre ⟨J,K0,K1,K2,K3,K4,K5,A6,A7⟩ a hdef hev hold)
  ·have X1:a.tmps[1]?.getD undef = .pointer (some ⟨x,0,none⟩):=by
    have h:=hold 1 (by simp) (by intro j hj; rcases j with _ | _ | _ | _ | _ | _ | _ | _ | j <;> simp [dstAt])
    simpa [go_sem] using h
   exact zbf ho rfl (v:=.pointer (some ⟨x,0,none⟩)) (by go_simp) ⟨J,by simp [updV],by simpa [Upd,updV] using K1,by simpa [Upd,updV] using K2,by simpa [Upd,updV] using K3,by simpa [Upd,updV] using K4,by simpa [Upd,updV] using K5,by simpa [Upd,updV] using A6,by simpa [Upd,updV] using A7⟩
  ·have p0:=hpre 0 (by decide)
   have E0:=(hev 0 16 p0 rfl (by simp) (by simp)).trans (K0 p0)
   have e0:a.tmps[16]?.getD undef = .pointer (some ⟨x,0,none⟩):=by simpa [go_sem] using E0
   have c0:wx.cell? ⟨x,0,none⟩ = some (.slice (some ⟨b,0,none⟩) 1 1):=(RX.below J).cell 0
   exact zbf ho rfl (v:=.slice (some ⟨b,0,none⟩) 1 1) (by go_simp) ⟨J,by simpa [Upd,updV] using K0,by simp [updV],by simpa [Upd,updV] using K2,by simpa [Upd,updV] using K3,by simpa [Upd,updV] using K4,by simpa [Upd,updV] using K5,by simpa [Upd,updV] using A6,by simpa [Upd,updV] using A7⟩
  ·have p1:=hpre 1 (by decide)
   have E1:=(hev 1 17 p1 rfl (by simp) (by simp)).trans (K1 p1)
   have e1:a.tmps[17]?.getD undef = .slice (some ⟨b,0,none⟩) 1 1:=by simpa [go_sem] using E1
   refine zfm ho rfl rfl Tryz.func70 (by kernel_rfl) rfl #[.slice (some ⟨b,0,none⟩) 1 1] (by simp [E1]) ((zjo b 0 1 1 [0] wx (HB0.out wx J) rfl (by omega)).mono ?_)
   rintro _ wy ⟨v,rfl,ho2,hb⟩
   exact ⟨_,rfl,⟨zab J hb,by simpa [Upd,updV] using K0,by simpa [Upd,updV] using K1,fun _ _=>by simpa [updV] using ownMono ho2 J.size,by simpa [Upd,updV] using K3,by simpa [Upd,updV] using K4,fun h1 h2=>by obtain ⟨g,e1,e2,R⟩:=K5 (by simpa [Upd] using h1) (by simpa [Upd] using h2); exact ⟨g,by simpa [updV] using e1,e2,R.below hb⟩,fun h=>zai (by simpa [updV] using A6 (by simpa [Upd] using h)) hb,by simpa [Upd,updV] using A7⟩⟩
  ·have X1:a.tmps[1]?.getD undef = .pointer (some ⟨x,0,none⟩):=by
    have h:=hold 1 (by simp) (by intro j hj; rcases j with _ | _ | _ | _ | _ | _ | _ | _ | j <;> simp [dstAt])
    simpa [go_sem] using h
   exact zbf ho rfl (v:=.pointer (some ⟨x,1,none⟩)) (by go_simp) ⟨J,by simpa [Upd,updV] using K0,by simpa [Upd,updV] using K1,by simpa [Upd,updV] using K2,by simp [updV],by simpa [Upd,updV] using K4,by simpa [Upd,updV] using K5,by simpa [Upd,updV] using A6,by simpa [Upd,updV] using A7⟩
  ·have p3:=hpre 3 (by decide)
   have E3:=(hev 3 19 p3 rfl (by simp) (by simp)).trans (K3 p3)
   have e3:a.tmps[19]?.getD undef = .pointer (some ⟨x,1,none⟩):=by simpa [go_sem] using E3
   have c1:wx.cell? ⟨x,1,none⟩ = some (.int .i32 31):=(RX.below J).cell 1
   exact zbf ho rfl (v:=.int .i32 31) (by go_simp) ⟨J,by simpa [Upd,updV] using K0,by simpa [Upd,updV] using K1,by simpa [Upd,updV] using K2,by simpa [Upd,updV] using K3,by simp [updV],by simpa [Upd,updV] using K5,by simpa [Upd,updV] using A6,by simpa [Upd,updV] using A7⟩
  ·have p4:=hpre 4 (by decide)
   have E4:=(hev 4 20 p4 rfl (by simp) (by simp)).trans (K4 p4)
   have e4:a.tmps[20]?.getD undef = .int .i32 31:=by simpa [go_sem] using E4
   have hb:=zaa (Below.refl _ wx) (.cells #[.int .i32 31] 37)
   exact zbf ho rfl (v:=.slice (some ⟨wx.heap.size,0,none⟩) 1 1) (w1:=wx.alloc (.cells #[.int .i32 31] 37)) (by go_simp) ⟨zab J hb,by simpa [Upd,updV] using K0,by simpa [Upd,updV] using K1,fun h1 h2=>zai (by simpa [updV] using K2 (by simpa [Upd] using h1) (by simpa [Upd] using h2)) hb,by simpa [Upd,updV] using K3,by simpa [Upd,updV] using K4,fun _ _=>⟨wx.heap.size,by simp [updV],J.size,Row.new wx _ _⟩,fun h=>zai (by simpa [updV] using A6 (by simpa [Upd] using h)) hb,by simpa [Upd,updV] using A7⟩
  ·have p2:=hpre 2 (by decide)
   have p5:=hpre 5 (by decide)
   have e2:=hev 2 18 p2 rfl (by simp) (by simp)
   obtain ⟨g,v5,hg,RG⟩:=K5 p5 hL
   have e5:=(hev 5 21 p5 rfl (by simp) (by simp)).trans v5
   obtain ⟨v',w',hr,ho7,hb⟩:=zgv wx w0.heap.size 37 (V 2) 1 [0] (K2 p2 hL) g 31 RG (by omega) J.size
   exact zbf ho rfl (v:=v') (w1:=w') (zao _ _ _ _ rfl e2 e5 hr) ⟨J.trans hb,by simpa [Upd,updV] using K0,by simpa [Upd,updV] using K1,fun _ h=>by simp [Upd] at h,by simpa [Upd,updV] using K3,by simpa [Upd,updV] using K4,fun _ h=>by simp [Upd] at h,fun _=>by simpa [updV] using ho7,fun h=>⟨by simp [Upd],by have k:=(A7 (by simpa [Upd] using h)).1; rw [k] at hL; cases hL⟩⟩
  ·have p6:=hpre 6 (by decide)
   have e6:a.tmps[22]?.getD undef = V 6:=by simpa [go_sem] using hev 6 22 p6 rfl (by simp) (by simp)
   exact zbf ho rfl (v:=V 6) (by go_simp) ⟨J,by simpa [Upd,updV] using K0,by simpa [Upd,updV] using K1,by simpa [Upd,updV] using K2,by simpa [Upd,updV] using K3,by simpa [Upd,updV] using K4,by simpa [Upd,updV] using K5,by simpa [Upd,updV] using A6,fun _=>⟨by simp [Upd,p6],by simp [updV]⟩⟩
 ·rintro V wx ⟨J,K0,K1,K2,K3,K4,K5,A6,A7⟩
  have v0:=K0 rfl
  have v1:=K1 rfl
  have v3:=K3 rfl
  have v4:=K4 rfl
  have ho6:=A6 rfl
  have v7:=(A7 rfl).2
  clear K0 K1 K2 K3 K4 K5 A6 A7
  simp only [fill,if_true,dstAt,v0,v1,v3,v4,v7]
  simp [Act.put]
  clear v0 v1 v3 v4 v7
  obtain ⟨hN,hl⟩:=NsAt.of_own (l:=[0,31]) ho6
  generalize V 6 = v6 at *
  generalize V 2 = v2 at *
  generalize V 5 = v5 at *
  obtain ⟨p,cap,rfl,hN⟩:=hN
  rcases hN with hN | ⟨gl,off,rfl,hN⟩
  ·cases hN
  have d0:wx.cell? ⟨gl,off,none⟩ = some (.int .i32 0):=hN 0 (by show 0 < 2; omega)
  have d1:wx.cell? ⟨gl,off + 1,none⟩ = some (.int .i32 31):=hN 1 (by show 1 < 2; omega)
  have HD:=hdq (And.intro d0 d1)
  have HBX:=hdq (zab HBW.out J)
  have HGX:=hdq (HG.out.below J)
  clear d1 hN ho6 hl J RX
  show Exit.then _ _ _ { tmps:=_,defers:=[] } wx
  go_wp2_with fail
  refine wp_loop_rounds 3 ?_
  rw [rounds_succ]
  go_wp2_with fail
  refine (zdg 0 1970 (by omega) (by decide) (by decide) wx HGX.out).mono ?_
  rintro _ w1 ⟨rfl,hb⟩
  have e1:w1.cell? ⟨gl,off,none⟩ = some (.int .i32 0):=zae HD.out.1 hb
  have e2:w1.cell? ⟨gl,off + 1,none⟩ = some (.int .i32 31):=zae HD.out.2 hb
  have HB1:=hdq (zab HBX.out hb)
  have HG1:=hdq (HGX.out.below hb)
  have s1:dayT 1970 ((Dy.md 0 1970).1:Int) ((Dy.md 0 1970).2 + 1) = [49,57,55,48,45,48,49,45,48,49]:=by decide +kernel
  rw [s1]
  clear hb s1 d0
  go_wp2_with fail
  rw [rounds_succ]
  go_wp2_with fail
  refine (zdg 31 1970 (by omega) (by decide) (by decide) w1 HG1.out).mono ?_
  rintro _ w2 ⟨rfl,hb⟩
  have f1:w2.cell? ⟨gl,off,none⟩ = some (.int .i32 0):=zae e1 hb
  have HB2:=hdq (zab HB1.out hb)
  have s2:dayT 1970 ((Dy.md 31 1970).1:Int) ((Dy.md 31 1970).2 + 1) = [49,57,55,48,45,48,50,45,48,49]:=by decide +kernel
  rw [s2]
  clear hb s2 e1 e2
  go_wp2_with fail
  rw [rounds_succ]
  go_wp2_with fail
  exact bodyPost_ret (v:=.int .i64 0) (by simp [results,Tryz.results39,go_sem]) rfl ⟨rfl,HB2.out⟩
set_option maxHeartbeats 1000000 in
theorem fcheck10 (c u b:Nat) (w:World) (hK:Bk w c u b) (hG:Glb5 w):Calls Tryz.prog 24 #[.agg #[.slice (some ⟨c,0,none⟩) 1 1,.slice (some ⟨u,0,none⟩) 1 1,.slice (some ⟨b,0,none⟩) 1 1,.int .i32 31]] w fun e w'=>e = .returned (.int .i64 0)∧Below w.heap.size w w':=by
 have RX:=Row.new w #[.slice (some ⟨c,0,none⟩) 1 1,.slice (some ⟨u,0,none⟩) 1 1,.slice (some ⟨b,0,none⟩) 1 1,.int .i32 31] 41
 have BW:=zaa (Below.refl _ w) (.cells #[.slice (some ⟨c,0,none⟩) 1 1,.slice (some ⟨u,0,none⟩) 1 1,.slice (some ⟨b,0,none⟩) 1 1,.int .i32 31] 41)
 have x0:(w.alloc (.cells #[.slice (some ⟨c,0,none⟩) 1 1,.slice (some ⟨u,0,none⟩) 1 1,.slice (some ⟨b,0,none⟩) 1 1,.int .i32 31] 41)).cell? ⟨w.heap.size,0,none⟩ = some (.slice (some ⟨c,0,none⟩) 1 1):=RX.cell 0
 have x1:(w.alloc (.cells #[.slice (some ⟨c,0,none⟩) 1 1,.slice (some ⟨u,0,none⟩) 1 1,.slice (some ⟨b,0,none⟩) 1 1,.int .i32 31] 41)).cell? ⟨w.heap.size,1,none⟩ = some (.slice (some ⟨u,0,none⟩) 1 1):=RX.cell 1
 have x2:(w.alloc (.cells #[.slice (some ⟨c,0,none⟩) 1 1,.slice (some ⟨u,0,none⟩) 1 1,.slice (some ⟨b,0,none⟩) 1 1,.int .i32 31] 41)).cell? ⟨w.heap.size,2,none⟩ = some (.slice (some ⟨b,0,none⟩) 1 1):=RX.cell 2
 have x3:(w.alloc (.cells #[.slice (some ⟨c,0,none⟩) 1 1,.slice (some ⟨u,0,none⟩) 1 1,.slice (some ⟨b,0,none⟩) 1 1,.int .i32 31] 41)).cell? ⟨w.heap.size,3,none⟩ = some (.int .i32 31):=RX.cell 3
 have HBW:=hdq BW
 have HG:=hdq (hG.below BW)
 have HK:=hdq (hK.below BW)
 clear hK hG BW RX
 go_enter Tryz.func24,Tryz.ntmps24
 go_wp2_with fail
 have RS:=Row.new' (w.alloc (.cells #[.slice (some ⟨c,0,none⟩) 1 1,.slice (some ⟨u,0,none⟩) 1 1,.slice (some ⟨b,0,none⟩) 1 1,.int .i32 31] 41)) #[.func (.func 44) #[.slice (some ⟨c,0,none⟩) 1 1] #[],.func (.func 38) #[.slice (some ⟨u,0,none⟩) 1 1] #[],.func (.func 39) #[.agg #[.slice (some ⟨b,0,none⟩) 1 1,.int .i32 31]] #[]] 76 (g:=w.heap.size + 1) (by simp)
 have B2:=zaa (Below.refl _ (w.alloc (.cells #[.slice (some ⟨c,0,none⟩) 1 1,.slice (some ⟨u,0,none⟩) 1 1,.slice (some ⟨b,0,none⟩) 1 1,.int .i32 31] 41))) (.cells #[.func (.func 44) #[.slice (some ⟨c,0,none⟩) 1 1] #[],.func (.func 38) #[.slice (some ⟨u,0,none⟩) 1 1] #[],.func (.func 39) #[.agg #[.slice (some ⟨b,0,none⟩) 1 1,.int .i32 31]] #[]] 76)
 have HB1:=hdq (zab HBW.out B2)
 have HG1:=hdq (HG.out.below B2)
 have HK1:=hdq (HK.out.below B2)
 clear x0 x1 x2 x3 B2 HBW HG HK
 generalize (w.alloc (.cells #[.slice (some ⟨c,0,none⟩) 1 1,.slice (some ⟨u,0,none⟩) 1 1,.slice (some ⟨b,0,none⟩) 1 1,.int .i32 31] 41)).alloc (.cells #[.func (.func 44) #[.slice (some ⟨c,0,none⟩) 1 1] #[],.func (.func 38) #[.slice (some ⟨u,0,none⟩) 1 1] #[],.func (.func 39) #[.agg #[.slice (some ⟨b,0,none⟩) 1 1,.int .i32 31]] #[]] 76) = w1 at *
 obtain ⟨g,hg⟩:∃ g,g = w.heap.size + 1:=⟨_,rfl⟩
 rw [← hg] at RS ⊢
 clear hg
 have c0:w1.cell? ⟨g,0,none⟩ = some (.func (.func 44) #[.slice (some ⟨c,0,none⟩) 1 1] #[]):=RS.cell 0
 have HR1:=hdq RS
 clear RS
 refine wp_loop_rounds 4 ?_
 rw [rounds_succ]
 go_wp2_with fail
 refine (ccheck10 c w1 HK1.out.1).mono ?_
 rintro _ w2 ⟨rfl,hb⟩
 have c1:w2.cell? ⟨g,1,none⟩ = some (.func (.func 38) #[.slice (some ⟨u,0,none⟩) 1 1] #[]):=(HR1.out.below hb).cell 1
 have HR2:=hdq (HR1.out.below hb)
 have HB2:=hdq (zab HB1.out hb)
 have HG2:=hdq (HG1.out.below hb)
 have HK2:=hdq (HK1.out.below hb)
 clear hb c0
 go_wp2_with fail
 rw [rounds_succ]
 go_wp2_with fail
 refine (ucheck10 u w2 HK2.out.2.1).mono ?_
 rintro _ w3 ⟨rfl,hb⟩
 have c2:w3.cell? ⟨g,2,none⟩ = some (.func (.func 39) #[.agg #[.slice (some ⟨b,0,none⟩) 1 1,.int .i32 31]] #[]):=(HR2.out.below hb).cell 2
 have HB3:=hdq (zab HB2.out hb)
 have HG3:=hdq (HG2.out.below hb)
 have HK3:=hdq (HK2.out.below hb)
 clear hb c1
 go_wp2_with fail
 rw [rounds_succ]
 go_wp2_with fail
 refine (calcheck10 b w3 HK3.out.2.2 HG3.out).mono ?_
 rintro _ w4 ⟨rfl,hb⟩
 have HB4:=hdq (zab HB3.out hb)
 clear hb c2
 go_wp2_with fail
 rw [rounds_succ]
 go_wp2_with fail
 exact bodyPost_ret (v:=.int .i64 0) (by simp [results,Tryz.results24,go_sem]) rfl ⟨rfl,HB4.out⟩
set_option maxHeartbeats 1000000 in
theorem bcheck10 (c u b:Nat) (w:World) (hK:Bk w c u b) (hG:Glb5 w):Calls Tryz.prog 196 #[.agg (bkV c u b)] w fun e w'=>e = .returned (.int .i64 0)∧Below w.heap.size w w':=by
 have RX:=Row.new w (bkV c u b) 74
 have BW:=zaa (Below.refl _ w) (.cells (bkV c u b) 74)
 have HBW:=hdq BW
 have HG:=hdq (hG.below BW)
 have HK:=hdq (hK.below BW)
 have x0:(w.alloc (.cells (bkV c u b) 74)).cell? ⟨w.heap.size,0,none⟩ = some (.slice (some ⟨c,0,none⟩) 1 1):=RX.cell 0
 have x1:(w.alloc (.cells (bkV c u b) 74)).cell? ⟨w.heap.size,1,none⟩ = some (.slice (some ⟨u,0,none⟩) 1 1):=RX.cell 1
 have x2:(w.alloc (.cells (bkV c u b) 74)).cell? ⟨w.heap.size,2,none⟩ = some (.slice (some ⟨b,0,none⟩) 1 1):=RX.cell 2
 have x3:(w.alloc (.cells (bkV c u b) 74)).cell? ⟨w.heap.size,3,none⟩ = some (.int .i32 31):=RX.cell 3
 clear hK hG BW
 have HRX:=hdq RX
 clear RX
 unfold bkV at *
 go_enter Tryz.func196,Tryz.ntmps196
 go_wp2_with fail
 refine (fcheck10 c u b _ HK.out HG.out).mono ?_
 rintro _ w2 ⟨rfl,hb⟩
 have HB2:=hdq (zab HBW.out hb)
 have RX2:=HRX.out.below hb
 have y4:w2.cell? ⟨w.heap.size,4,none⟩ = some (.slice none 0 0):=RX2.cell 4
 clear RX2 hb x0 x1 x2 x3
 go_wp2_with fail
 refine wp_loop_rounds 1 ?_
 rw [rounds_succ]
 go_wp2_with fail
 exact bodyPost_ret (v:=.int .i64 0) (by simp [results,Tryz.results196,go_sem]) rfl ⟨rfl,HB2.out⟩
set_option maxHeartbeats 1000000 in
theorem awake10 (w:World) (hG:Glb5 w):Calls Tryz.prog 163 #[] w fun e w'=>e = .returned (.bool true)∧Below w.heap.size w w':=by
 have HG:=hdq hG
 clear hG
 go_enter Tryz.func163,Tryz.ntmps163
 go_wp2_with fail
 refine (make10 w).mono ?_
 rintro _ w1 ⟨c,u,b,rfl,hK,hb⟩
 have HB1:=hdq hb
 have HK1:=hdq hK
 clear hb hK
 go_wp2_with (first | (refine zal (N:=1) rfl rfl 74 rfl #[.slice none 0 0,.slice none 0 0,.slice none 0 0,.int .i32 0,.slice none 0 0] (fun w=>by kernel_rfl) ?_; intro g w2 hg RG B2) | (refine zad rfl 74 _ _ rfl g (bkV c u b) rfl rfl RG (by unfold bkV; kernel_rfl) rfl (by simp [bkV,Value.oneCell']) rfl ?_; intro w3 RZ S3; have HK3:=hdq ((HK1.out.below B2).stored S3 RG); have HB3:=hdq (S3.below (zab HB1.out B2) (Nat.le_trans HB1.out.size hg)); clear RG S3 B2 hg) | (refine zaq (N:=8) rfl rfl 74 _ rfl g rfl RZ _ Tryz.underlying74 rfl (by unfold bkV; kernel_rfl) ?_))
 refine (days10 c u b w3).mono ?_
 rintro _ w4 ⟨rfl,hb⟩
 have R4:=RZ.below hb
 have HB4:=hdq (zab HB3.out hb)
 have HK4:=hdq (HK3.out.below hb)
 clear hb RZ
 go_wp2_with (first | (refine zaq (N:=13) rfl rfl 74 _ rfl g rfl R4 _ Tryz.underlying74 rfl (by unfold bkV; kernel_rfl) ?_))
 refine (bcheck10 c u b w4 HK4.out (HG.out.below HB4.out)).mono ?_
 rintro _ w5 ⟨rfl,hb⟩
 have HB5:=hdq (zab HB4.out hb)
 clear hb R4
 go_wp2_with fail
 refine (awake9 w5 (HG.out.below HB5.out)).mono ?_
 rintro _ w6 ⟨rfl,hb⟩
 go_wp2
 go_ret
 exact ⟨rfl,zab HB5.out hb⟩
theorem zrp:∃ i,Tryz.prog.info? 5 = some i∧i.zero = some (.int .u8 0)∧i.size = 1∧i.bytes = 1:=by
 have h:(Tryz.prog.info? 5).map (fun i=>(i.zero,i.size,i.bytes)) = some (some (.int .u8 0),1,1):=by kernel_rfl
 obtain ⟨i,hi,h⟩:=Option.map_eq_some_iff.1 h
 simp only [Prod.mk.injEq] at h
 exact ⟨i,hi,h.1,h.2.1,h.2.2⟩
def Wr (B:Nat) (w:World) (q:Nat) (bs:List Int):Prop:=∃ v,Row w q #[v] 272∧v.oneCell' = true∧w.ownsRow B 5 1 v bs.length (nv .u8 bs)
theorem zbg {w:World} {B n size g:Nat} {e:TypeId} {v:Value} {xs:List Value} (h:w.ownsRow B e size v n xs) (hg:v.ownBlock = some g):∃ cs,w.heap[g]? = some (.cells cs e (0,0)):=by
 rcases h.2 with ⟨rfl,_⟩ | ⟨g',cap,cur,rfl,_,hh,_⟩
 ·simp [Value.ownBlock] at hg
 ·simp [Value.ownBlock] at hg
  subst hg
  exact ⟨cur,hh⟩
theorem zle (W:World) (B:Nat) (ty:TypeId) (v:Value) (n:Nat) (xs:List Int) (hown:W.ownsRow B 5 1 v n (nv .u8 xs)) (g:Nat) (z:Int) (RG:Row W g #[.int .u8 z] 5) (hn:n≤100000) (hB:B≤W.heap.size) :
  ∃ v' w',(Builtin.append_ #[25,25] ty #[v,.slice (some ⟨g,0,none⟩) 1 1]).run Tryz.prog W = .ok v' w'∧w'.ownsRow B 5 1 v' (n + 1) (nv .u8 (xs ++ [z]))∧W.grownBy w' v.ownBlock∧Below B W w':=by
 obtain ⟨i,hi,h1,h2,h3⟩:=zrp
 obtain ⟨v',w',hr,k2,k3,k4,k5⟩:=run_append_own_at (P:=Tryz.prog) W B 25 ty 5 i (.int .u8 0) 1 1 Tryz.underlying25 hi h1 h2 h3 rfl (by omega) v n (nv .u8 xs) hown ⟨g,0,none⟩ 1 1 [.int .u8 z] rfl (fun j u hj=>by
  rcases j with _ | j
  ·simp at hj
   subst hj
   rw [show (⟨g,0,none⟩:Addr).add 0 = ⟨g,0,none⟩ from rfl,RG.cell 0]
   rfl
  ·simp at hj) (fun u hu=>by simp at hu; subst hu; rfl) (by unfold maxLen; omega) (by omega) hB
 refine ⟨v',w',hr,by unfold nv at k2 ⊢; rwa [List.map_append],k3,(Below.refl B W).grown k3 hB ?_⟩
 intro k hk
 rcases hown.2 with ⟨rfl,_⟩ | ⟨g,cap,cur,rfl,hg,_⟩
 ·simp [Value.ownBlock] at hk
 ·simp [Value.ownBlock] at hk
  omega
set_option maxHeartbeats 1000000 in
set_option maxRecDepth 100000 in
theorem zei (B q:Nat) (n:Int) (bs:List Int) (w:World) (hW:Wr B w q bs) (hq:B≤q) (hn:0≤n∧n≤127) (hl:bs.length≤100000) :
  Calls Tryz.prog 193 #[.pointer (some ⟨q,0,none⟩),.int .u64 n] w fun e w'=>e = .returned (.tuple #[])∧Wr B w' q (bs ++ [n])∧Below B w w':=by
 obtain ⟨v,RQ,h1,ho⟩:=hW
 have h127:¬ (127 < n):=by omega
 have hwr:IntKind.u8.wrap n = n:=by rw [IntKind.wrap_u8]; omega
 have c0:w.cell? ⟨q,0,none⟩ = some v:=RQ.cell 0
 have hB:B≤w.heap.size:=Nat.le_trans hq (Nat.le_of_lt RQ.lt)
 have RN:=Row.new w #[.int .u8 n] 5
 have BA:=(Below.refl B w).alloc hB (.cells #[.int .u8 n] 5)
 have ho1:=zai ho (zaa (Below.refl _ w) (.cells #[.int .u8 n] 5))
 have hne:v.ownBlock ≠ some q:=fun e=>by
  obtain ⟨cs,h⟩:=zbg ho e
  have h2:=h.symm.trans RQ
  simp at h2
 obtain ⟨v',w2,hr,ho2,hgr,hb⟩:=zle (w.alloc (.cells #[.int .u8 n] 5)) B 25 v bs.length bs ho1 w.heap.size n RN hl (by simp; omega)
 have HR:=hdq hr
 have RQ2:Row w2 q #[v] 272:=(hgr.block q (by have:=RQ.lt; simp; omega) (fun e=>hne e.symm)).trans (RQ.alloc _)
 have hne2:v'.ownBlock ≠ some q:=fun e=>by
  obtain ⟨cs,h⟩:=zbg ho2 e
  have h2:=h.symm.trans RQ2
  simp at h2
 have h1':v'.oneCell' = true:=by obtain ⟨p,c,rfl⟩:=zaj ho2; rfl
 have d0:w2.cell? ⟨q,0,none⟩ = some v:=RQ2.cell 0
 have df:w2.frozen? ⟨q,0,none⟩ = false:=RQ2.frozen 0
 have HEND:=hdq (show Wr B (w2.setCell ⟨q,0,none⟩ v') q (bs ++ [n])∧Below B w (w2.setCell ⟨q,0,none⟩ v') from ⟨⟨v',RQ2.set 0 v',h1',by rw [List.length_append]; exact zak ho2 (zaf w2 q 0 v') hne2⟩,(BA.trans hb).setCell hq v'⟩)
 obtain ⟨p',c',hv'⟩:=zaj ho2
 subst hv'
 clear RQ hq hn hl ho RN BA ho1 hne hr ho2 hgr hb hne2 RQ2 hB
 go_enter Tryz.func193,Tryz.ntmps193
 go_wp2_with fail
 refine wp_loop_rounds 1 ?_
 rw [rounds_succ]
 go_wp2_with (at_builtin; refine zbn rfl (zao _ _ _ _ rfl rfl rfl HR.out) ?_)
 go_end0
 exact ⟨rfl,HEND.out⟩
theorem zey (B q:Nat) (n:Int) (bs:List Int) (w:World) (hW:Wr B w q bs) (hq:B≤q) (hn:n = 0∨n = 1) (hl:bs.length≤100000) :
  Calls Tryz.prog 195 #[.pointer (some ⟨q,0,none⟩),.int .i64 n] w fun e w'=>e = .returned (.tuple #[])∧Wr B w' q (bs ++ [2 * n])∧Below B w w':=by
 have HN:=hdq (zei B q (2 * n) bs w hW hq (by omega) hl)
 clear hW hq hl
 rcases hn with rfl | rfl
 ·go_enter Tryz.func195,Tryz.ntmps195
  go_wp2_with fail
  refine HN.out.mono ?_
  rintro _ w1 ⟨rfl,h⟩
  go_wp2_with fail
  go_end0
  exact ⟨rfl,h⟩
 ·go_enter Tryz.func195,Tryz.ntmps195
  go_wp2_with fail
  refine HN.out.mono ?_
  rintro _ w1 ⟨rfl,h⟩
  go_wp2_with fail
  go_end0
  exact ⟨rfl,h⟩
set_option maxHeartbeats 1000000 in
set_option maxRecDepth 100000 in
theorem zql (B q g:Nat) (n:Int) (bs:List Int) (w:World) (RQ:Row w q #[.slice (some ⟨g,0,none⟩) bs.length bs.length] 272) (hc:∀ j v,(nv .u8 bs)[j]? = some v→w.cell? ⟨g,j,none⟩ = some v) (hq:B≤q) (hn:0≤n∧n≤127) (hl:bs.length≤100000) :
  Calls Tryz.prog 193 #[.pointer (some ⟨q,0,none⟩),.int .u64 n] w fun e w'=>e = .returned (.tuple #[])∧Wr B w' q (bs ++ [n])∧Below B w w':=by
 have h127:¬ (127 < n):=by omega
 have hwr:IntKind.u8.wrap n = n:=by rw [IntKind.wrap_u8]; omega
 obtain ⟨v,hv⟩:∃ v,v = Value.slice (some ⟨g,0,none⟩) bs.length bs.length:=⟨_,rfl⟩
 rw [← hv] at RQ
 have c0:w.cell? ⟨q,0,none⟩ = some v:=RQ.cell 0
 have hB:B≤w.heap.size:=Nat.le_trans hq (Nat.le_of_lt RQ.lt)
 obtain ⟨W,hW⟩:∃ W,W = w.alloc (.cells #[.int .u8 n] 5):=⟨_,rfl⟩
 have RN:Row W w.heap.size #[.int .u8 n] 5:=by rw [hW]; exact Row.new w #[.int .u8 n] 5
 have BA:Below w.heap.size w W:=by rw [hW]; exact zaa (Below.refl _ w) (.cells #[.int .u8 n] 5)
 obtain ⟨i,hi,h1,h2,h3⟩:=zrp
 obtain ⟨G,hG⟩:∃ G,G = grownCap W (bs.length + 1) bs.length 5:=⟨_,rfl⟩
 have hG1:bs.length + 1≤G:=by rw [hG]; exact grownCap_ge W _ _ _
 have hG2:G≤maxLen:=by rw [hG]; exact grownCap_le_maxLen W _ _ _ (by unfold maxLen; omega)
 have hr0:=run_append_grow (P:=Tryz.prog) (w:=W) 25 25 5 i (.int .u8 0) Tryz.underlying25 hi h1 ⟨g,0,none⟩ bs.length bs.length (nv .u8 bs) (by rw [zbs,h2,Nat.mul_one]) (fun j v hj=>by
  rw [zbo g 0 j,Nat.zero_add]
  exact zae (hc j v hj) BA) ⟨w.heap.size,0,none⟩ 1 1 [.int .u8 n] (by rw [h2]; rfl) (fun j u hj=>by
  rcases j with _ | j
  ·simp at hj
   subst hj
   rw [show (⟨w.heap.size,0,none⟩:Addr).add 0 = ⟨w.heap.size,0,none⟩ from rfl,RN.cell 0]
   rfl
  ·simp at hj) (by omega) (by omega) (by rw [h3]; exact growslice_fits (by omega) (by omega))
 rw [← hG] at hr0
 obtain ⟨ROW,hROW⟩:∃ ROW:Array Value,ROW = (nv .u8 bs).toArray ++ ([.int .u8 n]:List Value).toArray ++ Builtin.zeroCells (Value.int .u8 0).cells (G - (bs.length + 1)):=⟨_,rfl⟩
 rw [← hROW] at hr0
 have hRs:ROW.size = G:=by
  rw [hROW]
  have e1:(nv .u8 bs).length = bs.length:=zbs _ _
  have e2:(Builtin.zeroCells (Value.int .u8 0).cells (G - (bs.length + 1))).size = G - (bs.length + 1):=by rw [size_zeroCells]; simp [Value.cells]
  simp only [Array.size_append,List.size_toArray,e1,e2,List.length_singleton]
  omega
 have hRt:ROW.toList.take (bs.length + 1) = nv .u8 (bs ++ [n]):=by
  rw [hROW,Array.toList_append,Array.toList_append]
  have e1:(nv .u8 (bs ++ [n])).length = bs.length + 1:=by rw [zbs,List.length_append]; rfl
  have e3:(nv .u8 bs) ++ [.int .u8 n] = nv .u8 (bs ++ [n]):=by simp [nv]
  show List.take (bs.length + 1) (nv .u8 bs ++ [.int .u8 n] ++ _) = _
  rw [e3,← e1,List.take_left]
 obtain ⟨w2,hw2⟩:∃ w2,w2 = W.drew.alloc (.cells ROW 5):=⟨_,rfl⟩
 rw [← hw2] at hr0
 have R2:Row w2 W.heap.size ROW 5:=by rw [hw2]; exact Row.new W.drew ROW 5
 have B2:Below W.heap.size W w2:=by rw [hw2]; exact zaa (zat (Below.refl _ W)) _
 have HR:=hdq hr0
 have RQ2:Row w2 q #[v] 272:=Row.below (RQ.below BA) B2
 have hWs:w.heap.size≤W.heap.size:=BA.size
 have d0:w2.cell? ⟨q,0,none⟩ = some v:=RQ2.cell 0
 have df:w2.frozen? ⟨q,0,none⟩ = false:=RQ2.frozen 0
 have hqW:W.heap.size ≠ q:=by have:=RQ.lt; omega
 have hWeq:w.alloc (.cells #[.int .u8 n] 5) = W:=hW.symm
 obtain ⟨v',hv'⟩:∃ v',v' = Value.slice (some ⟨W.heap.size,0,none⟩) (bs.length + 1) G:=⟨_,rfl⟩
 have ho2:w2.ownsRow B 5 1 v' (bs.length + 1) (nv .u8 (bs ++ [n])):=⟨by rw [zbs,List.length_append]; simp,.inr ⟨W.heap.size,G,ROW,hv',Nat.le_trans hB hWs,R2,hG1,hG2,by rw [hRs,Nat.mul_one],by rw [Nat.mul_one]; exact hRt⟩⟩
 have HEND:=hdq (show Wr B (w2.setCell ⟨q,0,none⟩ v') q (bs ++ [n])∧Below B w (w2.setCell ⟨q,0,none⟩ v') from ⟨⟨v',RQ2.set 0 v',by rw [hv']; rfl,by rw [List.length_append]; exact zak ho2 (zaf w2 q 0 v') (by rw [hv']; simpa [Value.ownBlock] using hqW)⟩,((zab BA B2).mono hB).setCell hq v'⟩)
 rw [hv'] at HEND
 rw [hv] at c0 d0
 have HWE:=hdq hWeq
 clear RQ hq hn hl hc RN BA hr0 R2 B2 RQ2 hB hRs hRt hROW hG hG1 hG2 hw2 hW hWeq hWs hqW ho2 hv' hv h1 h2 h3 hi
 go_enter Tryz.func193,Tryz.ntmps193
 go_wp2_with fail
 refine wp_loop_rounds 1 ?_
 rw [rounds_succ]
 go_wp2_with (first | (simp only [HWE.out]) | (at_builtin; refine zbn rfl (zao _ _ _ _ rfl rfl rfl HR.out) ?_))
 go_end0
 exact ⟨rfl,HEND.out⟩
theorem Row.belowB {w w':World} {B g:Nat} {cs:Array Value} {t:TypeId} (h:Row w g cs t) (hg:g < B) (hb:Below B w w'):Row w' g cs t:=(hb.block g hg).trans h
set_option maxHeartbeats 4000000 in
set_option maxRecDepth 100000 in
theorem encode11 (s:Nat) (w:World) (hS:Row w s #[.int .i32 0] 37):Calls Tryz.prog 161 #[.agg #[.slice none 0 0,.slice none 0 0,.slice (some ⟨s,0,none⟩) 1 1,.int .i32 1,.slice none 0 0]] w fun e w'=>∃ v,e = .returned v∧NsAt .u8 w' v [84,82,80,49,0,0,1,0,2,0]∧Below w.heap.size w w':=by
 have RX:=(Row.new w #[.slice none 0 0,.slice none 0 0,.slice (some ⟨s,0,none⟩) 1 1,.int .i32 1,.slice none 0 0] 74).alloc (.cells #[.int .u8 84,.int .u8 82,.int .u8 80,.int .u8 49] 5 (4,5))
 have cB:∀ j,((w.alloc (.cells #[.slice none 0 0,.slice none 0 0,.slice (some ⟨s,0,none⟩) 1 1,.int .i32 1,.slice none 0 0] 74)).alloc (.cells #[.int .u8 84,.int .u8 82,.int .u8 80,.int .u8 49] 5 (4,5))).cell? ⟨w.heap.size + 1,j,none⟩ = #[.int .u8 84,.int .u8 82,.int .u8 80,.int .u8 49][j]?:=fun j=>Joins.cell_alloc_mark_at _ #[.int .u8 84,.int .u8 82,.int .u8 80,.int .u8 49] _ _ _ j (by simp)
 have BW:=zaa (zaa (Below.refl _ w) (.cells #[.slice none 0 0,.slice none 0 0,.slice (some ⟨s,0,none⟩) 1 1,.int .i32 1,.slice none 0 0] 74)) (.cells #[.int .u8 84,.int .u8 82,.int .u8 80,.int .u8 49] 5 (4,5))
 have hz:((w.alloc (.cells #[.slice none 0 0,.slice none 0 0,.slice (some ⟨s,0,none⟩) 1 1,.int .i32 1,.slice none 0 0] 74)).alloc (.cells #[.int .u8 84,.int .u8 82,.int .u8 80,.int .u8 49] 5 (4,5))).heap.size = w.heap.size + 2:=by simp
 have hcv:=Joins.run_convert_bytes_const_at (P:=Tryz.prog) (w.alloc (.cells #[.slice none 0 0,.slice none 0 0,.slice (some ⟨s,0,none⟩) 1 1,.int .i32 1,.slice none 0 0] 74)) 25 5 #[.int .u8 84,.int .u8 82,.int .u8 80,.int .u8 49] 4 4 (w.heap.size + 1) (by simp) Tryz.underlying25 Tryz.underlying5
 have RS:=hS.below BW
 have hs:=hS.lt
 have HW:=hdq (And.intro BW hs)
 clear hS BW
 go_enter Tryz.func161,Tryz.ntmps161
 go_wp2_with fail
 have RQ:=Row.new' ((w.alloc (.cells #[.slice none 0 0,.slice none 0 0,.slice (some ⟨s,0,none⟩) 1 1,.int .i32 1,.slice none 0 0] 74)).alloc (.cells #[.int .u8 84,.int .u8 82,.int .u8 80,.int .u8 49] 5 (4,5))) #[.slice (some ⟨w.heap.size + 1,0,none⟩) 4 4] 272 hz.symm
 have RX:=RX.alloc (.cells #[.slice (some ⟨w.heap.size + 1,0,none⟩) 4 4] 272)
 have RS:=RS.alloc (.cells #[.slice (some ⟨w.heap.size + 1,0,none⟩) 4 4] 272)
 have BW:=zaa HW.out.1 (.cells #[.slice (some ⟨w.heap.size + 1,0,none⟩) 4 4] 272)
 have hc:∀ j v,(nv .u8 [84,82,80,49])[j]? = some v→(((w.alloc (.cells #[.slice none 0 0,.slice none 0 0,.slice (some ⟨s,0,none⟩) 1 1,.int .i32 1,.slice none 0 0] 74)).alloc (.cells #[.int .u8 84,.int .u8 82,.int .u8 80,.int .u8 49] 5 (4,5))).alloc (.cells #[.slice (some ⟨w.heap.size + 1,0,none⟩) 4 4] 272)).cell? ⟨w.heap.size + 1,j,none⟩ = some v:=fun j v hj=>zae ((cB j).trans (by simpa [nv] using hj)) (zaa (Below.refl _ _) _)
 have hzw:w.heap.size + 1≤(((w.alloc (.cells #[.slice none 0 0,.slice none 0 0,.slice (some ⟨s,0,none⟩) 1 1,.int .i32 1,.slice none 0 0] 74)).alloc (.cells #[.int .u8 84,.int .u8 82,.int .u8 80,.int .u8 49] 5 (4,5))).alloc (.cells #[.slice (some ⟨w.heap.size + 1,0,none⟩) 4 4] 272)).heap.size:=by simp
 generalize ((w.alloc (.cells #[.slice none 0 0,.slice none 0 0,.slice (some ⟨s,0,none⟩) 1 1,.int .i32 1,.slice none 0 0] 74)).alloc (.cells #[.int .u8 84,.int .u8 82,.int .u8 80,.int .u8 49] 5 (4,5))).alloc (.cells #[.slice (some ⟨w.heap.size + 1,0,none⟩) 4 4] 272) = w0 at *
 obtain ⟨B,hBe⟩:∃ B,B = w.heap.size + 1:=⟨_,rfl⟩
 obtain ⟨q,hqe⟩:∃ q,q = w.heap.size + 2:=⟨_,rfl⟩
 obtain ⟨x,hxe⟩:∃ x,x = w.heap.size:=⟨_,rfl⟩
 have hq:B≤q:=by omega
 have hxB:x < B:=by omega
 have hsB:s < B:=by omega
 have hBw:B≤w0.heap.size:=by omega
 rw [← hBe] at RQ hc
 rw [← hqe] at RQ ⊢
 rw [← hxe] at RX ⊢
 have HF:=hdq (And.intro hq (And.intro hxB (And.intro hsB (And.intro hBw (And.intro hxe hBe)))))
 have HB0:=hdq (Below.refl B w0)
 have HX0:=hdq RX
 have HS0:=hdq RS
 have HBW:=hdq BW
 have HN:=hdq (zql B q B 0 [84,82,80,49] w0 RQ hc hq (by omega) (by show 4≤100000; omega))
 clear RX RS BW RQ hc hz hzw hcv cB hq hxB hsB hBw hBe hqe hxe hs HW
 refine HN.out.mono ?_
 rintro _ w1 ⟨rfl,hw,hb⟩
 have HB1:=hdq (HB0.out.trans hb)
 have HX1:=hdq (HX0.out.belowB HF.out.2.1 hb)
 have HS1:=hdq (HS0.out.belowB HF.out.2.2.1 hb)
 have HW1:=hdq hw
 have x0:w1.cell? ⟨x,0,none⟩ = some (.slice none 0 0):=HX1.out.cell 0
 have x1:w1.cell? ⟨x,1,none⟩ = some (.slice none 0 0):=HX1.out.cell 1
 have x2:w1.cell? ⟨x,2,none⟩ = some (.slice (some ⟨s,0,none⟩) 1 1):=HX1.out.cell 2
 have x3:w1.cell? ⟨x,3,none⟩ = some (.int .i32 1):=HX1.out.cell 3
 have x4:w1.cell? ⟨x,4,none⟩ = some (.slice none 0 0):=HX1.out.cell 4
 have s0:w1.cell? ⟨s,0,none⟩ = some (.int .i32 0):=HS1.out.cell 0
 clear hw hb
 go_wp2_with fail
 refine wp_loop_rounds 1 ?_
 rw [rounds_succ]
 go_wp2_with fail
 clear x0 x1 x2 x3 x4 s0
 refine (zei B q 0 [84,82,80,49,0] w1 HW1.out HF.out.1 (by omega) (by simp)).mono ?_
 rintro _ w2 ⟨rfl,hw,hb⟩
 have HB2:=hdq (HB1.out.trans hb)
 have HX2:=hdq (HX1.out.belowB HF.out.2.1 hb)
 have HS2:=hdq (HS1.out.belowB HF.out.2.2.1 hb)
 have HW2:=hdq hw
 have x0:w2.cell? ⟨x,0,none⟩ = some (.slice none 0 0):=HX2.out.cell 0
 have x1:w2.cell? ⟨x,1,none⟩ = some (.slice none 0 0):=HX2.out.cell 1
 have x2:w2.cell? ⟨x,2,none⟩ = some (.slice (some ⟨s,0,none⟩) 1 1):=HX2.out.cell 2
 have x3:w2.cell? ⟨x,3,none⟩ = some (.int .i32 1):=HX2.out.cell 3
 have x4:w2.cell? ⟨x,4,none⟩ = some (.slice none 0 0):=HX2.out.cell 4
 have s0:w2.cell? ⟨s,0,none⟩ = some (.int .i32 0):=HS2.out.cell 0
 clear hw hb
 go_wp2_with fail
 refine wp_loop_rounds 1 ?_
 rw [rounds_succ]
 go_wp2_with fail
 clear x0 x1 x2 x3 x4 s0
 refine (zei B q 1 [84,82,80,49,0,0] w2 HW2.out HF.out.1 (by omega) (by simp)).mono ?_
 rintro _ w3 ⟨rfl,hw,hb⟩
 have HB3:=hdq (HB2.out.trans hb)
 have HX3:=hdq (HX2.out.belowB HF.out.2.1 hb)
 have HS3:=hdq (HS2.out.belowB HF.out.2.2.1 hb)
 have HW3:=hdq hw
 have x0:w3.cell? ⟨x,0,none⟩ = some (.slice none 0 0):=HX3.out.cell 0
 have x1:w3.cell? ⟨x,1,none⟩ = some (.slice none 0 0):=HX3.out.cell 1
 have x2:w3.cell? ⟨x,2,none⟩ = some (.slice (some ⟨s,0,none⟩) 1 1):=HX3.out.cell 2
 have x3:w3.cell? ⟨x,3,none⟩ = some (.int .i32 1):=HX3.out.cell 3
 have x4:w3.cell? ⟨x,4,none⟩ = some (.slice none 0 0):=HX3.out.cell 4
 have s0:w3.cell? ⟨s,0,none⟩ = some (.int .i32 0):=HS3.out.cell 0
 clear hw hb
 go_wp2_with fail
 refine wp_loop_rounds 2 ?_
 rw [rounds_succ]
 go_wp2_with fail
 clear x0 x1 x2 x3 x4 s0
 refine (zey B q 0 [84,82,80,49,0,0,1] w3 HW3.out HF.out.1 (by omega) (by simp)).mono ?_
 rintro _ w4 ⟨rfl,hw,hb⟩
 have HB4:=hdq (HB3.out.trans hb)
 have HX4:=hdq (HX3.out.belowB HF.out.2.1 hb)
 have HS4:=hdq (HS3.out.belowB HF.out.2.2.1 hb)
 have HW4:=hdq hw
 have x0:w4.cell? ⟨x,0,none⟩ = some (.slice none 0 0):=HX4.out.cell 0
 have x1:w4.cell? ⟨x,1,none⟩ = some (.slice none 0 0):=HX4.out.cell 1
 have x2:w4.cell? ⟨x,2,none⟩ = some (.slice (some ⟨s,0,none⟩) 1 1):=HX4.out.cell 2
 have x3:w4.cell? ⟨x,3,none⟩ = some (.int .i32 1):=HX4.out.cell 3
 have x4:w4.cell? ⟨x,4,none⟩ = some (.slice none 0 0):=HX4.out.cell 4
 have s0:w4.cell? ⟨s,0,none⟩ = some (.int .i32 0):=HS4.out.cell 0
 clear hw hb
 go_wp2_with fail
 rw [rounds_succ]
 go_wp2_with fail
 clear x0 x1 x2 x3 x4 s0
 refine (zey B q 1 [84,82,80,49,0,0,1,0] w4 HW4.out HF.out.1 (by omega) (by simp)).mono ?_
 rintro _ w5 ⟨rfl,hw,hb⟩
 have HB5:=hdq (HB4.out.trans hb)
 have HX5:=hdq (HX4.out.belowB HF.out.2.1 hb)
 have HS5:=hdq (HS4.out.belowB HF.out.2.2.1 hb)
 have HW5:=hdq hw
 have x0:w5.cell? ⟨x,0,none⟩ = some (.slice none 0 0):=HX5.out.cell 0
 have x1:w5.cell? ⟨x,1,none⟩ = some (.slice none 0 0):=HX5.out.cell 1
 have x2:w5.cell? ⟨x,2,none⟩ = some (.slice (some ⟨s,0,none⟩) 1 1):=HX5.out.cell 2
 have x3:w5.cell? ⟨x,3,none⟩ = some (.int .i32 1):=HX5.out.cell 3
 have x4:w5.cell? ⟨x,4,none⟩ = some (.slice none 0 0):=HX5.out.cell 4
 have s0:w5.cell? ⟨s,0,none⟩ = some (.int .i32 0):=HS5.out.cell 0
 clear hw hb
 go_wp2_with fail
 clear x0 x1 x2 x3 x4 s0
 refine (zei B q 0 [84,82,80,49,0,0,1,0,2] w5 HW5.out HF.out.1 (by omega) (by simp)).mono ?_
 rintro _ w6 ⟨rfl,hw,hb⟩
 have HB6:=hdq (HB5.out.trans hb)
 have HX6:=hdq (HX5.out.belowB HF.out.2.1 hb)
 have HS6:=hdq (HS5.out.belowB HF.out.2.2.1 hb)
 have HW6:=hdq hw
 have x0:w6.cell? ⟨x,0,none⟩ = some (.slice none 0 0):=HX6.out.cell 0
 have x1:w6.cell? ⟨x,1,none⟩ = some (.slice none 0 0):=HX6.out.cell 1
 have x2:w6.cell? ⟨x,2,none⟩ = some (.slice (some ⟨s,0,none⟩) 1 1):=HX6.out.cell 2
 have x3:w6.cell? ⟨x,3,none⟩ = some (.int .i32 1):=HX6.out.cell 3
 have x4:w6.cell? ⟨x,4,none⟩ = some (.slice none 0 0):=HX6.out.cell 4
 have s0:w6.cell? ⟨s,0,none⟩ = some (.int .i32 0):=HS6.out.cell 0
 clear hw hb
 go_wp2_with fail
 refine wp_loop_rounds 1 ?_
 rw [rounds_succ]
 obtain ⟨v,RQ,_,ho⟩:=HW6.out
 obtain ⟨hN,_⟩:=NsAt.of_own (l:=[84,82,80,49,0,0,1,0,2,0]) ho
 have q0:w6.cell? ⟨q,0,none⟩ = some v:=RQ.cell 0
 have HE:=hdq (And.intro hN (show Below w.heap.size w w6 from HBW.out.trans (HB6.out.mono (by have:=HF.out; omega))))
 have H1:=hdq RQ
 obtain ⟨p,c,rfl⟩:=zaj ho
 clear hN ho RQ
 go_wp2_with fail
 exact bodyPost_ret (by simp [results,Tryz.results161,go_sem]) rfl ⟨_,rfl,HE.out⟩
end Go.Proofs.YtlpdfglbdijkoaaGreatDoor