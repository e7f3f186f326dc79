/-
  Own texts, several in one (SortU, SortV, Make7, FrameA).
-/
import Derived.Test.YtlpdfglbdijkoaaGreatDoorOwnGet6
import Derived.Test.YtlpdfglbdijkoaaGreatDoorMrg11
import Derived.Test.YtlpdfglbdijkoaaGreatDoorMrg10
import Derived.Test.YtlpdfglbdijkoaaGreatDoorMrg13
import Derived.Test.YtlpdfglbdijkoaaGreatDoorMrg12
import Derived.Test.YtlpdfglbdijkoaaGreatDoorMrg14
import Derived.Test.YtlpdfglbdijkoaaGreatDoorMrg22
namespace Go.Proofs.YtlpdfglbdijkoaaGreatDoor
open Go.RowKit
set_option linter.unusedVariables false
set_option linter.unusedSimpArgs false
def cellsU (ys:List Int) (rest:List Value):Array Value:=(nv .u16 ys ++ rest).toArray
theorem zds (ys:List Int) (rest:List Value) (j:Nat) (h:j < ys.length):(cellsU ys rest)[j]? = some (.int .u16 (ys.getD j 0)):=by
 unfold cellsU nv
 simp [List.getElem?_append,h,List.getD]
theorem zgt (ys:List Int) (rest:List Value) (j:Nat) (z:Int) (h:j < ys.length):(cellsU ys rest).setIfInBounds j (.int .u16 z) = cellsU (ys.set j z) rest:=by
 unfold cellsU nv
 rw [List.setIfInBounds_toArray,List.set_append_left _ _ (by simpa using h),List.map_set]
theorem zih (A B:List Int) (x:Int) (h:(A ++ B).Pairwise (·≤·)) (hB:∀ b ∈ B,x≤b) (hA:∀ a ∈ A,a≤x):(A ++ x :: B).Pairwise (·≤·):=by
 rw [List.pairwise_append] at h ⊢
 obtain ⟨h1,h2,h3⟩:=h
 refine ⟨h1,List.pairwise_cons.2 ⟨hB,h2⟩,fun a ha b hb=>?_⟩
 rcases List.mem_cons.1 hb with rfl | hb
 ·exact hA a ha
 ·exact h3 a ha b hb
theorem last_le (A:List Int) (a x:Int) (h:(A ++ [a]).Pairwise (·≤·)) (hx:a≤x):∀ b ∈ A ++ [a],b≤x:=by
 intro b hb
 rw [List.pairwise_append] at h
 rcases List.mem_append.1 hb with hb | hb
 ·exact Int.le_trans (h.2.2 b hb a (by simp)) hx
 ·rw [List.mem_singleton.1 hb]; exact hx
theorem set_two (A D:List Int) (p q z:Int):(A ++ p :: q :: D).set (A.length + 1) z = A ++ p :: z :: D:=by
 rw [List.set_append_right _ _ (by omega),show A.length + 1 - A.length = 1 by omega]
 rfl
theorem set_one (A D:List Int) (p z:Int):(A ++ p :: D).set A.length z = A ++ z :: D:=by
 rw [List.set_append_right _ _ (by omega),Nat.sub_self]
 rfl
set_option maxHeartbeats 8000000 in
set_option maxRecDepth 100000 in
theorem znx (g cap:Nat) (xs:List Int) (rest:List Value) (w:World) (R:Row w g (cellsU xs rest) 56) (hl:xs.length≤100000) :
  Calls Tryz.prog 120 #[.slice (some ⟨g,0,none⟩) xs.length cap,.int .i64 0,.int .i64 (xs.length:Int)] w fun e w'=>e = .returned (.tuple #[])∧∃ ys,ys.Perm xs∧ys.Pairwise (·≤·)∧Row w' g (cellsU ys rest) 56∧Stored w g w':=by
 have HR:=hdq R
 obtain ⟨n,hn⟩:∃ n,n = xs.length:=⟨_,rfl⟩
 rw [← hn] at hl ⊢
 have HN:=hdq (And.intro hn hl)
 clear R hn hl
 go_enter Tryz.func120,Tryz.ntmps120
 go_wp2_with fail
 go_loopw [6] (fun iv wr=>∃ (i:Nat) (ys:List Int),iv = .int .i64 (i:Int)∧1≤i∧i≤n + 1∧ys.Perm xs∧(ys.take i).Pairwise (·≤·)∧Row wr g (cellsU ys rest) 56∧Stored w g wr) (fun iv _=>n + 1 - (intOf iv).toNat)
 case atStart=>exact ⟨1,xs,rfl,by omega,by omega,List.Perm.refl _,by cases xs <;> simp,HR.out,Stored.refl _ _⟩
 case round =>
  obtain ⟨i,ys,rfl,hi1,hi2,hpm,hso,RW,ST⟩:=hrel
  have HI:=hdq (And.intro hi1 (And.intro hi2 (And.intro hpm hso)))
  have HRW:=hdq RW
  have HST:=hdq ST
  clear hi1 hi2 hpm hso RW ST HR
  by_cases hlt:i < n
  ·have q1:(i:Int) < (n:Int):=by omega
   have HLT:=hdq hlt
   clear hlt
   go_wp2_with fail
   go_loopw [7] (fun jv wr2=>∃ (A B C:List Int) (x:Int),jv = .int .i64 (A.length:Int)∧A.length + B.length = i∧A.length + 1 + B.length + C.length = n∧(A ++ x :: (B ++ C)).Perm xs∧(A ++ B).Pairwise (·≤·)∧(∀ b ∈ B,x≤b)∧Row wr2 g (cellsU (A ++ x :: (B ++ C)) rest) 56∧Stored w g wr2) (fun jv _=>(intOf jv).toNat)
   case atStart =>
    have hh:=HI.out
    have hlen:ys.length = n:=by rw [hh.2.2.1.length_eq,HN.out.1]
    have hlt:=HLT.out
    refine ⟨ys.take i,[],ys.drop (i + 1),ys.getD i 0,by rw [List.length_take,Nat.min_eq_left (by omega)],by rw [List.length_take,Nat.min_eq_left (by omega)]; rfl,by rw [List.length_take,List.length_drop,Nat.min_eq_left (by omega)]; simp; omega,?_,by rw [List.append_nil]; exact hh.2.2.2,by simp,?_,HST.out⟩
    all_goals (have e:ys.take i ++ ys.getD i 0 :: ([] ++ ys.drop (i + 1)) = ys:=by rw [List.nil_append,List.getD_eq_getElem?_getD,List.getElem?_eq_getElem (by omega)]; simp)
    ·rw [e]; exact hh.2.2.1
    ·rw [e]; exact HRW.out
   case round =>
    obtain ⟨A,B,C,x,rfl,hab,habc,hpm,hso,hxb,R2,S2⟩:=hrel
    have H2:=hdq (And.intro hab (And.intro habc (And.intro hpm (And.intro hso hxb))))
    have HR2:=hdq R2
    have HS2:=hdq S2
    clear hab habc hpm hso hxb R2 S2 HRW HST
    rcases List.eq_nil_or_concat A with rfl | ⟨A',a,hA⟩
    ·rw [show ((([]:List Int).length:Nat):Int) = 0 from rfl]
     go_wp2_with fail
     refine zbe (n:=15) 14 8 (by kernel_rfl) (fun w1 w2=>w2 = w1) (fun w1=>Row w1 g (cellsU ([] ++ x :: (B ++ C)) rest) 56∧Stored w g w1) (fun i w1 v=>v = (#[.int .i64 0,.int .i64 0,.bool false,.bool false]:Array Value).getD i undef) (fun c v w1=>v = .bool false∧Row w1 g (cellsU ([] ++ x :: (B ++ C)) rest) 56∧Stored w g w1) (by kernel_rfl) (by kernel_rfl) (by kernel_rfl) ⟨HR2.out,zbh HS2.out⟩ rfl (fun w1 w2 a e=>e ▸ a) (fun i w1 w2 v e h=>h) ?_
     intro F Fz hF hFz
     simp only [fill,updV,dstAt] at hF hFz
     simp [Act.put] at hF hFz
     obtain rfl:F = fun c=>_:=funext fun c=>(hF c).symm
     obtain rfl:Fz = fun c v=>_:=funext fun c=>funext fun v=>(hFz c v).symm
     clear hF hFz
     refine ⟨?_,?_,?_⟩
     ·intro i op ho n1 c wv S hG
      rcases i with _ | _ | _ | _ | _ | _ | _ | _ | _ | _ | _ | _ | _ | _ | _ | i
      all_goals (first | (exact absurd rfl n1) | (simp at ho; done) | (obtain rfl:=Option.some.inj ho))
      ·exact zac _ rfl (by go_simp) ⟨rfl,rfl⟩
      ·exact zac _ rfl (by go_simp) ⟨rfl,rfl⟩
      ·have g0:c 0 = .int .i64 0:=hG 0 rfl (by omega)
       have g1:c 1 = .int .i64 0:=hG 1 rfl (by omega)
       exact zac (.bool false) rfl (by simp only [g0,g1]; go_simp) ⟨rfl,rfl⟩
      ·have g2:c 2 = .bool false:=hG 2 rfl (by omega)
       exact zac (.bool false) rfl (by simp only [g2]; go_simp) ⟨rfl,rfl⟩
      all_goals (have g3:c 3 = .bool false:=hG 3 rfl (by omega); exact .inl ⟨by simp only [g3]; rfl,rfl,rfl⟩)
     ·intro op ho c wv S hG
      obtain rfl:=Option.some.inj ho
      have g3:c 3 = .bool false:=hG 3 (by omega) (by omega)
      exact zac (.bool false) rfl (by simp only [g3]; go_simp) ⟨rfl,S⟩
     ·rintro c v wy ⟨rfl,SY⟩
      have ev:IntKind.i64.wrap ((i:Int) + 1) = ((i + 1:Nat):Int):=by have:=HLT.out; have:=HN.out.2; rw [IntKind.wrap_i64]; omega
      go_wp2_with fail
      have h2:=H2.out
      have h3:=HI.out
      have h4:=HLT.out
      refine ⟨⟨i + 1,x :: (B ++ C),by push_cast; rfl,by omega,by omega,h2.2.2.1,?_,SY.1,SY.2⟩,by simp [intOf]; omega⟩
      have e:(x :: (B ++ C)).take (i + 1) = x :: B:=by
       have h5:B.length = i:=by have:=h2.1; simpa using this
       rw [List.take_succ_cons,← h5,List.take_left]
      rw [e]
      have:=zih [] B x h2.2.2.2.1 h2.2.2.2.2 (by simp)
      exact this
    ·rw [List.concat_eq_append] at hA
     subst hA
     obtain ⟨jm,hjm⟩:∃ m,m = A'.length:=⟨_,rfl⟩
     have hL:(A' ++ [a]).length = jm + 1:=by simp [hjm]
     obtain ⟨jj,hjj⟩:∃ m,m = jm + 1:=⟨_,rfl⟩
     have h2:=H2.out
     have hjn:jj < n:=by have:=h2.2.1; rw [hL] at this; omega
     have hn9:=HN.out.2
     have RW2:=HR2.out
     have e0:(A' ++ [a]) ++ x :: (B ++ C) = A' ++ a :: x :: (B ++ C):=by simp
     rw [e0] at RW2
     rw [hL,← hjj]
     have HRW2:=hdq RW2
     have HJ:=hdq (And.intro hjm hjj)
     have g1:(cellsU (A' ++ a :: x :: (B ++ C)) rest)[jj]? = some (.int .u16 x):=by
      rw [zds _ _ _ (by simp; omega)]
      subst hjj; subst hjm
      simp [List.getD,List.getElem?_append]
     have g2:(cellsU (A' ++ a :: x :: (B ++ C)) rest)[jm]? = some (.int .u16 a):=by
      rw [zds _ _ _ (by simp; omega)]
      subst hjm
      simp [List.getD,List.getElem?_append]
     have k0:(0:Int)≤(jj:Int):=by omega
     have k1:(jj:Int) < (n:Int):=by omega
     have k2:(0:Int)≤(jm:Int):=by omega
     have k3:(jm:Int) < (n:Int):=by omega
     have k4:IntKind.i64.wrap ((jj:Int) - 1) = (jm:Int):=by rw [IntKind.wrap_i64]; omega
     have k5:decide ((0:Int) < (jj:Int)) = true:=decide_eq_true (by omega)
     have k6:decide (0 < jj) = true:=decide_eq_true (by omega)
     have d1:∀ m:QW (fun w'=>Row w' g (cellsU (A' ++ a :: x :: (B ++ C)) rest) 56∧Stored w g w'),m.w.cell? ⟨g,jj,none⟩ = some (.int .u16 x):=fun m=>(m.h.1.cell jj).trans g1
     have d2:∀ m:QW (fun w'=>Row w' g (cellsU (A' ++ a :: x :: (B ++ C)) rest) 56∧Stored w g w'),m.w.cell? ⟨g,jm,none⟩ = some (.int .u16 a):=fun m=>(m.h.1.cell jm).trans g2
     have HC1:=hdq (show ∀ m:QW (fun w'=>Row w' g (cellsU (A' ++ a :: x :: (B ++ C)) rest) 56∧Stored w g w'),Calls Tryz.prog 126 #[.int .u16 x,.int .u16 a] m.w fun e w''=>e = .returned (.bool (decide (x < a)))∧∃ m2:QW (fun w'=>Row w' g (cellsU (A' ++ a :: x :: (B ++ C)) rest) 56∧Stored w g w'),w'' = m2.w from fun m=>(zjp x a m.w).mono fun e w'' ⟨h1,h2⟩=>⟨h1,m,h2⟩)
     clear hL h2 hjn hn9 RW2 e0 hjm hjj HR2
     go_wp2_with fail
     refine zbj (fun w'=>Row w' g (cellsU (A' ++ a :: x :: (B ++ C)) rest) 56∧Stored w g w') (by kernel_rfl) (by kernel_rfl) ⟨HRW2.out,zbh HS2.out⟩ (fun hne=>?_)
     repeat (go_big_quiet_step (first | (with_reducible exact HC1.out _)))
     refine wpQuiet_nil ?_
     intro _ hw'
     obtain ⟨⟨wy,SY⟩,rfl⟩:=hw'
     clear d1 d2 HC1
     by_cases hxa:x < a
     ·have c1:decide (x < a) = true:=decide_eq_true hxa
      have HXA:=hdq hxa
      clear hxa
      go_wp2_with fail
      rotate_left
      ·rename_i h9
       exact absurd HXA.out (by omega)
      have g1':(cellsU (A' ++ a :: (if false = true then a else x) :: (B ++ C)) rest)[jj]? = some (.int .u16 x):=g1
      have g2':∀ y:Int,(cellsU (A' ++ a :: y :: (B ++ C)) rest)[jm]? = some (.int .u16 a):=fun y=>by
       have hj:=HJ.out.1
       rw [zds _ _ _ (by simp; omega)]
       subst hj
       simp [List.getD,List.getElem?_append]
      have g3':∀ y:Int,(cellsU (A' ++ a :: y :: (B ++ C)) rest)[jj]? = some (.int .u16 y):=fun y=>by
       have hj:=HJ.out.1
       have hj2:=HJ.out.2
       rw [zds _ _ _ (by simp; omega)]
       subst hj2; subst hj
       simp [List.getD,List.getElem?_append]
      clear g1 g2 k5 k6 c1
      refine zim (n:=18) 17 12 (by kernel_rfl) (fun w1 w2=>True) (fun L w1=>Row w1 g (cellsU (A' ++ a :: (if L 15 = true then a else x) :: (B ++ C)) rest) 56∧Stored w g w1) (fun i w1 v=>if i = 15 then True else v = (#[.slice (some ⟨g,0,none⟩) n cap,.int .i64 (jj:Int),.slice (some ⟨g,0,none⟩) n cap,.int .i64 (jj:Int),.int .i64 (jm:Int),.slice (some ⟨g,0,none⟩) n cap,.int .i64 (jj:Int),.int .i64 (jm:Int),.pointer (some ⟨g,jm,none⟩),.int .u16 a,.slice (some ⟨g,0,none⟩) n cap,.int .i64 (jj:Int),.pointer (some ⟨g,jj,none⟩),.int .u16 x,.pointer (some ⟨g,jj,none⟩),undef,.pointer (some ⟨g,jm,none⟩)]:Array Value).getD i undef) (fun c v w1=>Row w1 g (cellsU (A' ++ x :: a :: (B ++ C)) rest) 56∧Stored w g w1) (by kernel_rfl) (by kernel_rfl) (by kernel_rfl) ⟨SY.1,zbh SY.2⟩ rfl (fun i w1 w2 v e h=>h) ?_
      intro F Fz hF hFz
      simp only [fill,updV,dstAt] at hF hFz
      simp [Act.put] at hF hFz
      obtain rfl:F = fun c=>_:=funext fun c=>(hF c).symm
      obtain rfl:Fz = fun c v=>_:=funext fun c=>funext fun v=>(hFz c v).symm
      clear hF hFz
      refine ⟨?_,?_,?_⟩
      ·rintro i op ho n1 c wv L hLi hW ⟨RV,SV⟩ hG
       have RVV:=RV
       rcases i with _ | _ | _ | _ | _ | _ | _ | _ | _ | _ | _ | _ | _ | _ | _ | _ | _ | _ | i
       all_goals (first | (exact absurd rfl n1) | (simp at ho; done) | (obtain rfl:=Option.some.inj ho))
       ·exact zac (.slice (some ⟨g,0,none⟩) n cap) rfl (by go_simp) ⟨trivial,rfl,by simpa [Upd] using RVV,SV⟩
       ·exact zac (.int .i64 (jj:Int)) rfl (by go_simp) ⟨trivial,rfl,by simpa [Upd] using RVV,SV⟩
       ·exact zac (.slice (some ⟨g,0,none⟩) n cap) rfl (by go_simp) ⟨trivial,rfl,by simpa [Upd] using RVV,SV⟩
       ·exact zac (.int .i64 (jj:Int)) rfl (by go_simp) ⟨trivial,rfl,by simpa [Upd] using RVV,SV⟩
       ·have g3:c 3 = .int .i64 (jj:Int):=hG 3 rfl (by omega)
        exact zac (.int .i64 (jm:Int)) rfl (by simp only [g3]; go_simp) ⟨trivial,rfl,by simpa [Upd] using RVV,SV⟩
       ·exact zac (.slice (some ⟨g,0,none⟩) n cap) rfl (by go_simp) ⟨trivial,rfl,by simpa [Upd] using RVV,SV⟩
       ·exact zac (.int .i64 (jj:Int)) rfl (by go_simp) ⟨trivial,rfl,by simpa [Upd] using RVV,SV⟩
       ·have g6:c 6 = .int .i64 (jj:Int):=hG 6 rfl (by omega)
        exact zac (.int .i64 (jm:Int)) rfl (by simp only [g6]; go_simp) ⟨trivial,rfl,by simpa [Upd] using RVV,SV⟩
       ·have g5:c 5 = .slice (some ⟨g,0,none⟩) n cap:=hG 5 rfl (by omega)
        have g7:c 7 = .int .i64 (jm:Int):=hG 7 rfl (by omega)
        exact zac (.pointer (some ⟨g,jm,none⟩)) rfl (by simp only [g5,g7]; go_simp) ⟨trivial,rfl,by simpa [Upd] using RVV,SV⟩
       ·have g8:c 8 = .pointer (some ⟨g,jm,none⟩):=hG 8 rfl (by omega)
        have v1:wv.cell? ⟨g,jm,none⟩ = some (.int .u16 a):=(RV.cell jm).trans (g2' _)
        exact zac (.int .u16 a) rfl (by simp only [g8]; go_simp) ⟨trivial,rfl,by simpa [Upd] using RVV,SV⟩
       ·exact zac (.slice (some ⟨g,0,none⟩) n cap) rfl (by go_simp) ⟨trivial,rfl,by simpa [Upd] using RVV,SV⟩
       ·exact zac (.int .i64 (jj:Int)) rfl (by go_simp) ⟨trivial,rfl,by simpa [Upd] using RVV,SV⟩
       ·have g10:c 10 = .slice (some ⟨g,0,none⟩) n cap:=hG 10 rfl (by omega)
        have g11:c 11 = .int .i64 (jj:Int):=hG 11 rfl (by omega)
        exact zac (.pointer (some ⟨g,jj,none⟩)) rfl (by simp only [g10,g11]; go_simp) ⟨trivial,rfl,by simpa [Upd] using RVV,SV⟩
       ·have g12:c 12 = .pointer (some ⟨g,jj,none⟩):=hG 12 rfl (by omega)
        have l15:=hW 15 (by omega) (by kernel_rfl)
        rw [l15] at RV
        have v1:wv.cell? ⟨g,jj,none⟩ = some (.int .u16 x):=(RV.cell jj).trans g1'
        exact zac (.int .u16 x) rfl (by simp only [g12]; go_simp) ⟨trivial,rfl,by simpa [Upd] using RVV,SV⟩
       ·have g0:c 0 = .slice (some ⟨g,0,none⟩) n cap:=hG 0 rfl (by omega)
        have g1:c 1 = .int .i64 (jj:Int):=hG 1 rfl (by omega)
        exact zac (.pointer (some ⟨g,jj,none⟩)) rfl (by simp only [g0,g1]; go_simp) ⟨trivial,rfl,by simpa [Upd] using RVV,SV⟩
       ·have g14:c 14 = .pointer (some ⟨g,jj,none⟩):=hG 14 rfl (by omega)
        have g9:c 9 = .int .u16 a:=hG 9 rfl (by omega)
        have v1:wv.cell? ⟨g,jj,none⟩ = some (.int .u16 (if L 15 = true then a else x)):=(RV.cell jj).trans (g3' _)
        have fz:wv.frozen? ⟨g,jj,none⟩ = false:=RV.frozen jj
        have RN:Row (wv.setCell ⟨g,jj,none⟩ (.int .u16 a)) g (cellsU (A' ++ a :: a :: (B ++ C)) rest) 56:=by
         have h:=RV.set jj (.int .u16 a)
         rw [zgt _ _ _ _ (by simp; have:=HJ.out; omega)] at h
         have e:(A' ++ a :: (if L 15 = true then a else x) :: (B ++ C)).set jj a = A' ++ a :: a :: (B ++ C):=by rw [HJ.out.2,HJ.out.1]; exact set_two A' (B ++ C) a _ a
         rwa [e] at h
        generalize (if L 15 = true then a else x) = y at v1
        exact zbu (wv.setCell ⟨g,jj,none⟩ (.int .u16 a)) rfl (by simp only [g14,g9]; go_simp) ⟨trivial,trivial,by simpa [Upd] using RN,SV.trans (zaf _ _ _ _)⟩
       ·have g2:c 2 = .slice (some ⟨g,0,none⟩) n cap:=hG 2 rfl (by omega)
        have g4:c 4 = .int .i64 (jm:Int):=hG 4 rfl (by omega)
        exact zac (.pointer (some ⟨g,jm,none⟩)) rfl (by simp only [g2,g4]; go_simp) ⟨trivial,rfl,by simpa [Upd] using RVV,SV⟩
      ·rintro op ho c wv L hLall ⟨RV,SV⟩ hG
       obtain rfl:=Option.some.inj ho
       have g16:c 16 = .pointer (some ⟨g,jm,none⟩):=hG 16 (by omega) (by omega)
       have g13:c 13 = .int .u16 x:=hG 13 (by omega) (by omega)
       rw [hLall 15 (by omega) (by omega),if_pos rfl] at RV
       have v1:wv.cell? ⟨g,jm,none⟩ = some (.int .u16 a):=(RV.cell jm).trans (g2' _)
       have fz:wv.frozen? ⟨g,jm,none⟩ = false:=RV.frozen jm
       have RN:Row (wv.setCell ⟨g,jm,none⟩ (.int .u16 x)) g (cellsU (A' ++ x :: a :: (B ++ C)) rest) 56:=by
        have h:=RV.set jm (.int .u16 x)
        rw [zgt _ _ _ _ (by simp; have:=HJ.out; omega)] at h
        have e:(A' ++ a :: a :: (B ++ C)).set jm x = A' ++ x :: a :: (B ++ C):=by rw [HJ.out.1]; exact set_one A' (a :: (B ++ C)) a x
        rwa [e] at h
       exact zbu (wv.setCell ⟨g,jm,none⟩ (.int .u16 x)) rfl (by simp only [g16,g13]; go_simp) ⟨RN,SV.trans (zaf _ _ _ _)⟩
      ·rintro c v wz ⟨RZ,SZ⟩
       go_wp2_with fail
       have h2:=H2.out
       have hj:=HJ.out
       have hx:=HXA.out
       have e0:A' ++ x :: a :: (B ++ C) = A' ++ x :: ((a :: B) ++ C):=by simp
       rw [e0] at RZ
       refine ⟨⟨A',a :: B,C,x,by rw [hj.1],?_,?_,?_,?_,?_,RZ,SZ⟩,by simp [intOf]; omega⟩
       ·have:=h2.1; simp at this ⊢; omega
       ·have:=h2.2.1; simp at this ⊢; omega
       ·refine List.Perm.trans ?_ h2.2.2.1
        have e1:(A' ++ [a]) ++ x :: (B ++ C) = A' ++ (a :: x :: (B ++ C)):=by simp
        rw [e1]
        exact List.Perm.append_left A' (List.Perm.swap a x (B ++ C))
       ·have:=h2.2.2.2.1
        simpa using this
       ·intro b hb
        rcases List.mem_cons.1 hb with rfl | hb
        ·omega
        ·exact h2.2.2.2.2 b hb
     ·have c1:decide (x < a) = false:=decide_eq_false hxa
      have HXA:=hdq hxa
      clear hxa
      have ev:IntKind.i64.wrap ((i:Int) + 1) = ((i + 1:Nat):Int):=by have:=HLT.out; have:=HN.out.2; rw [IntKind.wrap_i64]; omega
      go_wp2_with fail
      have h2:=H2.out
      have h3:=HI.out
      have h4:=HLT.out
      have e0:(A' ++ [a]) ++ x :: (B ++ C) = A' ++ a :: x :: (B ++ C):=by simp
      refine ⟨⟨i + 1,A' ++ a :: x :: (B ++ C),by push_cast; rfl,by omega,by omega,by rw [← e0]; exact h2.2.2.1,?_,SY.1,SY.2⟩,by simp [intOf]; omega⟩
      have e:(A' ++ a :: x :: (B ++ C)).take (i + 1) = (A' ++ [a]) ++ x :: B:=by
       have h5:((A' ++ [a]) ++ x :: B).length = i + 1:=by have:=h2.1; rw [List.length_append,List.length_cons]; omega
       have h6:A' ++ a :: x :: (B ++ C) = ((A' ++ [a]) ++ x :: B) ++ C:=by simp
       rw [h6,← h5,List.take_left]
      rw [e]
      exact zih _ B x h2.2.2.2.1 h2.2.2.2.2 (last_le A' a x (List.pairwise_append.1 h2.2.2.2.1).1 (by have:=HXA.out; omega))
  ·have q1:¬ (i:Int) < (n:Int):=by omega
   have HLT:=hdq hlt
   clear hlt
   go_wp2_with fail
   go_end0
   have hh:=HI.out
   have hlen:ys.length = n:=by rw [hh.2.2.1.length_eq,HN.out.1]
   refine ⟨rfl,ys,hh.2.2.1,?_,HRW.out,HST.out⟩
   have:=hh.2.2.2
   rwa [List.take_of_length_le (by have:=HLT.out; omega)] at this
theorem pdq_u16 (g cap lim:Nat) (xs:List Int) (rest:List Value) (w:World) (R:Row w g (cellsU xs rest) 56) (hl:xs.length≤12) :
  Calls Tryz.prog 86 #[.slice (some ⟨g,0,none⟩) xs.length cap,.int .i64 0,.int .i64 (xs.length:Int),.int .i64 (lim:Int)] w fun e w'=>e = .returned (.tuple #[])∧∃ ys,ys.Perm xs∧ys.Pairwise (·≤·)∧Row w' g (cellsU ys rest) 56∧Stored w g w':=by
 have HI:=hdq (znx g cap xs rest w R (by omega))
 generalize xs.length = n at *
 have k1:(n:Int)≤12:=by omega
 have e1:IntKind.i64.wrap (n:Int) = (n:Int):=by rw [IntKind.wrap_i64]; omega
 have e2:IntKind.i64.wrap ((n:Int) - 0) = (n:Int):=by rw [IntKind.wrap_i64]; omega
 clear R hl
 go_enter Tryz.func86,Tryz.ntmps86
 go_wp2_with fail
 refine wp_loop_rounds 1 ?_
 rw [rounds_succ]
 go_wp2_with fail
 refine HI.out.mono ?_
 rintro _ w1 ⟨rfl,hb⟩
 go_wp2_with fail
 exact bodyPost_ret (results_none rfl _ _ _) rfl ⟨rfl,hb⟩
def lenB (n:Nat):Nat:=if n = 0 then 0 else if n = 1 then 1 else if n≤3 then 2 else if n≤7 then 3 else 4
theorem zjs (n:Nat) (h:n≤8) (w:World):Calls Tryz.prog 130 #[.int .u64 (n:Int)] w fun e w'=>e = .returned (.int .i64 (lenB n:Int))∧w' = w:=by
 have hm:n = 0∨n = 1∨n = 2∨n = 3∨n = 4∨n = 5∨n = 6∨n = 7∨n = 8:=by omega
 rcases hm with rfl | rfl | rfl | rfl | rfl | rfl | rfl | rfl | rfl
 all_goals (go_enter Tryz.func130,Tryz.ntmps130; go_wp2)
 ·exact bodyPost_ret (v:=.int .i64 0) (by simp [results,Tryz.results130,go_sem]; decide +kernel) rfl ⟨rfl,rfl⟩
 ·exact bodyPost_ret (v:=.int .i64 1) (by simp [results,Tryz.results130,go_sem]; decide +kernel) rfl ⟨rfl,rfl⟩
 ·exact bodyPost_ret (v:=.int .i64 2) (by simp [results,Tryz.results130,go_sem]; decide +kernel) rfl ⟨rfl,rfl⟩
 ·exact bodyPost_ret (v:=.int .i64 2) (by simp [results,Tryz.results130,go_sem]; decide +kernel) rfl ⟨rfl,rfl⟩
 ·exact bodyPost_ret (v:=.int .i64 3) (by simp [results,Tryz.results130,go_sem]; decide +kernel) rfl ⟨rfl,rfl⟩
 ·exact bodyPost_ret (v:=.int .i64 3) (by simp [results,Tryz.results130,go_sem]; decide +kernel) rfl ⟨rfl,rfl⟩
 ·exact bodyPost_ret (v:=.int .i64 3) (by simp [results,Tryz.results130,go_sem]; decide +kernel) rfl ⟨rfl,rfl⟩
 ·exact bodyPost_ret (v:=.int .i64 3) (by simp [results,Tryz.results130,go_sem]; decide +kernel) rfl ⟨rfl,rfl⟩
 ·exact bodyPost_ret (v:=.int .i64 4) (by simp [results,Tryz.results130,go_sem]; decide +kernel) rfl ⟨rfl,rfl⟩
theorem zov (n:Nat) (h:n≤8) (w:World):Calls Tryz.prog 87 #[.int .u64 (n:Int)] w fun e w'=>e = .returned (.int .i64 (lenB n:Int))∧w' = w:=by
 have HB:=hdq (zjs n h)
 clear h
 go_enter Tryz.func87,Tryz.ntmps87
 go_wp2_with fail
 refine (HB.out w).mono ?_
 rintro _ _ ⟨rfl,rfl⟩
 go_wp2_with fail
 exact bodyPost_ret (v:=.int .i64 (lenB n:Int)) (by simp [results,Tryz.results87,go_sem]) rfl ⟨rfl,rfl⟩
theorem zsu (g cap:Nat) (xs:List Int) (rest:List Value) (w:World) (R:Row w g (cellsU xs rest) 56) (hl:xs.length≤8) :
  Calls Tryz.prog 51 #[.slice (some ⟨g,0,none⟩) xs.length cap] w fun e w'=>e = .returned (.tuple #[])∧∃ ys,ys.Perm xs∧ys.Pairwise (·≤·)∧Row w' g (cellsU ys rest) 56∧Stored w g w':=by
 have HP:=hdq (fun (lim:Nat)=>pdq_u16 g cap lim xs rest w R (by omega))
 have HB:=hdq (zov xs.length hl)
 generalize xs.length = n at *
 have e1:IntKind.u64.wrap (n:Int) = (n:Int):=by rw [IntKind.wrap_u64]; omega
 clear R hl
 go_enter Tryz.func51,Tryz.ntmps51
 go_wp2_with fail
 refine (HB.out w).mono ?_
 rintro _ w0 ⟨rfl,rfl⟩
 go_wp2_with fail
 refine (HP.out (lenB n)).mono ?_
 rintro _ w1 ⟨rfl,hb⟩
 go_wp2_with fail
 go_end0
 exact ⟨rfl,hb⟩
def st7 (out:List Int) (n:Int):List Int:=if 1 + n % 9 ∈ out then out else out ++ [1 + n % 9]
def mk7 (l:List Int):List Int:=l.foldl st7 []
theorem ztt (l:List Int) (k:Nat) (hk:k < l.length):mk7 (l.take (k + 1)) = st7 (mk7 (l.take k)) (l.getD k 0):=by
 unfold mk7
 rw [List.take_succ_eq_append_getElem hk,List.foldl_append]
 simp [List.getD,hk]
theorem zqx (l:List Int):(mk7 l).length≤l.length:=by
 have go:∀ (l:List Int) (s:List Int),(l.foldl st7 s).length≤s.length + l.length:=fun l=>by
  induction l with
  | nil=>intro s; simp
  | cons x l ih =>
   intro s
   rw [List.foldl_cons]
   have:=ih (st7 s x)
   have h:(st7 s x).length≤s.length + 1:=by unfold st7; split <;> simp
   rw [List.length_cons]
   omega
 simpa [mk7] using go l []
theorem zja (l:List Int):(mk7 l).Nodup∧∀ x ∈ mk7 l,1≤x∧x≤9:=by
 have go:∀ (l:List Int) (s:List Int),(s.Nodup∧∀ x ∈ s,1≤x∧x≤9)→((l.foldl st7 s).Nodup∧∀ x ∈ l.foldl st7 s,1≤x∧x≤9):=fun l=>by
  induction l with
  | nil=>intro s h; exact h
  | cons y l ih =>
   intro s h
   rw [List.foldl_cons]
   refine ih _ ?_
   unfold st7
   by_cases c:1 + y % 9 ∈ s
   ·rw [if_pos c]; exact h
   ·rw [if_neg c]
    refine ⟨List.nodup_append.2 ⟨h.1,by simp,fun a ha b hb=>?_⟩,fun x hx=>?_⟩
    ·rw [List.mem_singleton.1 hb]
     intro e
     exact c (e ▸ ha)
    ·rcases List.mem_append.1 hx with hx | hx
     ·exact h.2 x hx
     ·rw [List.mem_singleton.1 hx]; omega
 simpa [mk7] using go l [] ⟨List.nodup_nil,by simp⟩
theorem zow (W:World) (B:Nat) (ty:TypeId) (v:Value) (n:Nat) (xs:List Int) (hown:W.ownsRow B 56 1 v n (nv .u16 xs)) (g:Nat) (z:Int) (RG:Row W g #[.int .u16 z] 56) (hn:n≤100000) (hB:B≤W.heap.size) :
  ∃ v' w',(Builtin.append_ #[35,35] ty #[v,.slice (some ⟨g,0,none⟩) 1 1]).run Tryz.prog W = .ok v' w'∧w'.ownsRow B 56 1 v' (n + 1) (nv .u16 (xs ++ [z]))∧Below B W w':=by
 obtain ⟨i,hi,h1,h2,h3⟩:=zfg
 obtain ⟨v',w',hr,k2,k3,k4,k5⟩:=run_append_own_at (P:=Tryz.prog) W B 35 ty 56 i (.int .u16 0) 1 2 Tryz.underlying35 hi h1 h2 h3 rfl (by omega) v n (nv .u16 xs) hown ⟨g,0,none⟩ 1 1 [.int .u16 z] rfl (fun j u hj=>by
  rw [zbo,Nat.zero_add,RG.cell j]
  simpa using hj) (fun u hu=>by simp at hu; subst hu; rfl) (by unfold maxLen; omega) (by omega) hB
 exact ⟨v',w',hr,by unfold nv at k2 ⊢; rwa [List.map_append],(Below.refl B W).grown k3 hB (fun k hk=>(zbc hown hk).1)⟩
theorem zsv (B:Nat) (v:Value) (n:Nat) (xs:List Int) (w:World) (hown:w.ownsRow B 56 1 v n (nv .u16 xs)) (hl:xs.length≤8) (hB0:B≤w.heap.size) :
  Calls Tryz.prog 51 #[v] w fun e w'=>e = .returned (.tuple #[])∧∃ ys,ys.Perm xs∧ys.Pairwise (·≤·)∧w'.ownsRow B 56 1 v n (nv .u16 ys)∧Below B w w':=by
 have hln:=(NsAt.of_own hown).2
 rcases hown.2 with ⟨rfl,h0⟩ | ⟨g,cap,cur,rfl,hB,R,hc1,hc2,hc3,hc4⟩
 ·refine (zln w).mono ?_
  rintro _ w1 ⟨rfl,hb⟩
  subst h0
  obtain rfl:xs = []:=List.length_eq_zero_iff.1 hln
  exact ⟨rfl,[],List.Perm.refl _,List.Pairwise.nil,⟨rfl,.inl ⟨rfl,rfl⟩⟩,hb.mono hB0⟩
 ·subst hln
  have hcur:cur = cellsU xs (cur.toList.drop xs.length):=by
   unfold cellsU
   rw [← hc4,Nat.mul_one,List.take_append_drop]
  have R':Row w g (cellsU xs (cur.toList.drop xs.length)) 56:=by rw [← hcur]; exact R
  refine (zsu g cap xs _ w R' hl).mono ?_
  rintro _ w1 ⟨rfl,ys,hp,hso,RY,SY⟩
  refine ⟨rfl,ys,hp,hso,⟨by simp [nv,hp.length_eq],.inr ⟨g,cap,_,rfl,hB,RY,hc1,hc2,?_,?_⟩⟩,SY.below (Below.refl B w) hB⟩
  ·have h:(cellsU xs (cur.toList.drop xs.length)).size = cur.size:=by rw [← hcur]
   rw [← hc3,← h]
   simp [cellsU,nv,hp.length_eq]
  ·unfold cellsU
   rw [Nat.mul_one,← hp.length_eq]
   simp [nv]
set_option maxHeartbeats 4000000 in
set_option maxRecDepth 100000 in
theorem zrc (v:Value) (l:List Int) (w:World) (hN:NsAt .u16 w v l) (hb:∀ n ∈ l,0≤n∧n≤65535) (hl:l.length≤8) :
  Calls Tryz.prog 29 #[v] w fun e w'=>∃ v2 ys,e = .returned v2∧ys.Perm (mk7 l)∧ys.Pairwise (·≤·)∧w'.ownsRow w.heap.size 56 1 v2 ys.length (nv .u16 ys)∧Below w.heap.size w w':=by
 obtain ⟨p,cap,rfl,hc⟩:=hN
 have HC:=hdq hc
 have HB0:=hdq hb
 have HL:=hdq hl
 clear hc hb hl
 go_enter Tryz.func29,Tryz.ntmps29
 go_wp2_with fail
 go_loopw [3,8] (fun sv iv wr=>∃ k:Nat,k≤l.length∧iv = .int .i64 (k:Int)∧wr.ownsRow w.heap.size 56 1 sv (mk7 (l.take k)).length (nv .u16 (mk7 (l.take k)))∧Below w.heap.size w wr) (fun _ iv _=>l.length - (intOf iv).toNat)
 case atStart=>exact ⟨0,by omega,rfl,⟨rfl,.inl ⟨rfl,rfl⟩⟩,Below.refl _ _⟩
 case round =>
  obtain ⟨k,hk,rfl,hown,BB⟩:=hrel
  have HOW:=hdq hown
  have HB:=hdq BB
  have hln:=zqx (l.take k)
  rw [List.length_take,Nat.min_eq_left hk] at hln
  clear hown BB
  by_cases hlt:k < l.length
  ·have i0:(0:Int)≤(k:Int):=by omega
   have i1:(k:Int) < (l.length:Int):=by omega
   obtain ⟨b,off,rfl,hcc⟩:∃ b off,p = some ⟨b,off,none⟩∧∀ i,i < l.length→w.cell? ⟨b,off + i,none⟩ = some (.int .u16 (l.getD i 0)):=by
    rcases HC.out with h | h
    ·rw [h] at hlt; simp at hlt
    ·exact h
   have ck:=zae (hcc k hlt) HB.out
   have hx:=HB0.out _ (zay (d:=0) hlt)
   have hst:=ztt l k hlt
   obtain ⟨x,hxe⟩:∃ x,x = l.getD k 0:=⟨_,rfl⟩
   rw [← hxe] at ck hx hst
   obtain ⟨out,hout⟩:∃ o,o = mk7 (l.take k):=⟨_,rfl⟩
   rw [← hout] at HOW hst hln
   have HST:=hdq hst
   have HLT:=hdq hlt
   have HLN:=hdq hln
   obtain ⟨d,hd⟩:∃ d,d = x % 9:=⟨_,rfl⟩
   have m1:x.tmod 9 = d:=by rw [Int.tmod_eq_emod_of_nonneg hx.1,hd]
   have hm1:0≤d∧d < 9:=by omega
   have HD:=hdq hd
   have e1:IntKind.u16.wrap d = d:=by rw [IntKind.wrap_u16]; omega
   have e2:IntKind.u16.wrap (1 + d) = 1 + d:=by rw [IntKind.wrap_u16]; omega
   have e5:IntKind.i64.wrap ((k:Int) + 1) = (k:Int) + 1:=by rw [IntKind.wrap_i64]; have:=HL.out; omega
   clear hcc hxe hlt hk hst hout hln hd hx
   go_wp2_with fail
   refine (zfb _ out (1 + d) wr (NsAt.of_own HOW.out).1 (by have:=HLN.out; have:=HL.out; have:=HLT.out; omega)).mono ?_
   rintro _ w9 ⟨rfl,h9⟩
   rw [h9]
   clear h9
   by_cases hc:1 + d ∈ out
   ·have q1:decide (1 + d ∈ out) = true:=decide_eq_true hc
    have HCC:=hdq hc
    rw [q1]
    clear hc q1
    go_wp2_with fail
    refine ⟨⟨k + 1,by have:=HLT.out; omega,by simp,?_,HB.out⟩,by have:=HLT.out; simp [intOf]; omega⟩
    have hs:=HST.out
    unfold st7 at hs
    rw [← HD.out,if_pos HCC.out] at hs
    rw [hs]
    exact HOW.out
   ·have q1:decide (1 + d ∈ out) = false:=decide_eq_false hc
    have HCC:=hdq hc
    obtain ⟨sp,sc,hsv⟩:=zaj HOW.out
    obtain ⟨v6,w6,hr6,ho6,hb6⟩:=zow (wr.alloc (.cells #[.int .u16 (1 + d)] 56)) w.heap.size 35 u3 out.length out (zan HOW.out _) wr.heap.size (1 + d) (Row.new wr _ _) (by have:=HLN.out; have:=HL.out; have:=HLT.out; omega) (by have:=HB.out.size; simp; omega)
    have HR6:=hdq hr6
    have HO6:=hdq ho6
    have HB6:=hdq ((zaa HB.out (.cells #[.int .u16 (1 + d)] 56)).trans hb6)
    rw [q1]
    clear hc q1 hr6 ho6 hb6
    subst hsv
    go_wp2_with (first | (at_builtin; refine zbn rfl (zao _ _ _ _ rfl rfl rfl HR6.out) ?_))
    refine ⟨⟨k + 1,by have:=HLT.out; omega,by simp,?_,HB6.out⟩,by have:=HLT.out; simp [intOf]; omega⟩
    have hs:=HST.out
    unfold st7 at hs
    rw [← HD.out,if_neg HCC.out] at hs
    rw [hs,List.length_append]
    exact HO6.out
  ·have i1:¬ (k:Int) < (l.length:Int):=by omega
   obtain rfl:k = l.length:=by omega
   rw [List.take_length] at HOW hln
   have HLN:=hdq hln
   clear hlt hk hln
   go_wp2_with fail
   refine (zsv w.heap.size u3 _ _ wr HOW.out (by have:=HLN.out; have:=HL.out; omega) HB.out.size).mono ?_
   rintro _ w1 ⟨rfl,ys,hp,hso,ho,hb⟩
   have HP:=hdq (And.intro hp (And.intro hso (And.intro ho hb)))
   clear hp hso ho hb
   go_wp2_with fail
   go_ret
   have h:=HP.out
   exact ⟨_,ys,rfl,h.1,h.2.1,by rw [h.1.length_eq]; exact h.2.2.1,HB.out.trans h.2.2.2⟩
def FrOk (B:Nat) (c:List Ac) (u k:List Int) (w:World) (cv uv kv:Value):Prop :=
 w.ownsRow B 61 4 cv c.length (c.flatMap ac)∧w.ownsRow B 56 1 uv u.length (nv .u16 u)∧w.ownsRow B 37 1 kv k.length (nv .i32 k)
theorem zbz {w:World} {B n size g:Nat} {e t:TypeId} {v:Value} {xs:List Value} {cs:Array Value} (h:w.ownsRow B e size v n xs) (R:Row w g cs t) (ht:t ≠ e):v.ownBlock ≠ some g:=fun he=>by
 obtain ⟨cs2,h2⟩:=zbg h he
 have h3:=h2.symm.trans R
 simp at h3
 exact ht h3.2.symm
theorem FrOk.below {B:Nat} {c:List Ac} {u k:List Int} {w w':World} {cv uv kv:Value} (h:FrOk B c u k w cv uv kv) (hb:Below w.heap.size w w'):FrOk B c u k w' cv uv kv:=⟨zai h.1 hb,zai h.2.1 hb,zai h.2.2 hb⟩
theorem FrOk.stored {B g:Nat} {c:List Ac} {u k:List Int} {w w':World} {cv uv kv:Value} {cs:Array Value} (h:FrOk B c u k w cv uv kv) (R:Row w g cs 41) (hs:Stored w g w'):FrOk B c u k w' cv uv kv :=
 ⟨zak h.1 hs (zbz h.1 R (by show ¬ (41:Nat) = 61; omega)),zak h.2.1 hs (zbz h.2.1 R (by show ¬ (41:Nat) = 56; omega)),zak h.2.2 hs (zbz h.2.2 R (by show ¬ (41:Nat) = 37; omega))⟩
theorem zfs:∀ (l m:List Int),l.Perm m→l.Pairwise (·≤·)→m.Pairwise (·≤·)→l = m
 | [],m,h,_,_=>(List.Perm.nil_eq h)
 | a :: l,[],h,_,_=>by have:=h.length_eq; simp at this
 | a :: l,b :: m,h,h1,h2=>by
  have hab:a = b:=by
   have ha:a ∈ b :: m:=h.subset (List.mem_cons_self)
   have hb:b ∈ a :: l:=h.symm.subset (List.mem_cons_self)
   rcases List.mem_cons.1 ha with e | ha
   ·exact e
   ·rcases List.mem_cons.1 hb with e | hb
    ·exact e.symm
    ·have x1:=(List.pairwise_cons.1 h1).1 b hb
     have x2:=(List.pairwise_cons.1 h2).1 a ha
     omega
  subst hab
  rw [zfs l m (List.Perm.cons_inv h) (List.pairwise_cons.1 h1).2 (List.pairwise_cons.1 h2).2]
def srt (l:List Int):List Int:=l.mergeSort fun a b=>decide (a≤b)
theorem zgi (l:List Int):(srt l).Pairwise (·≤·):=by
 have h:=List.pairwise_mergeSort (le:=fun (a b:Int)=>decide (a≤b)) (fun a b c h1 h2=>by simp at *; omega) (fun a b=>by simp; omega) l
 exact h.imp (fun h=>by simpa using h)
theorem srt_eq {l m:List Int} (h:m.Perm l) (hs:m.Pairwise (·≤·)):m = srt l:=zfs m _ (h.trans (List.mergeSort_perm l _).symm) hs (zgi l)
def cash:Ac:=⟨7,⟨#[67,97,115,104]⟩,0,0⟩
def chartOf (l:List A6):List Ac:=if l.length = 0 then [cash] else (mk6 l).1
def unitsOf (l:List Int):List Int:=if (mk7 l).length = 0 then [5] else srt (mk7 l)
def startsOf (first:Int) (long:List Int):List Int:=Sc.mkStarts first long (min long.length 12)
def endOf (first:Int) (long:List Int):Int:=Sc.dayAt first long (min long.length 12) + 31
set_option maxHeartbeats 8000000 in
set_option maxRecDepth 100000 in
theorem zru (a:Option Addr) (cap:Nat) (l:List A6) (vu:Value) (lu:List Int) (first:Int) (vl:Value) (long:List Int) (vj:Value) (w:World)
  (hE:ElsAt a6 4 a60 w a l) (hok:∀ x ∈ l,x.ok) (hl:l.length≤20) (hU:NsAt .u16 w vu lu) (hub:∀ n ∈ lu,0≤n∧n≤65535) (hul:lu.length≤8)
  (hf:-32768≤first∧first≤32767) (hlb:∀ n ∈ long,0≤n∧n≤255) (hll:long.length≤8) (hL:NsAt .u8 w vl long) (hj:vj.oneCell' = true) :
  Calls Tryz.prog 10 #[.agg #[.slice a l.length cap,vu,.int .i16 first,vl,vj]] w fun e w'=>∃ cv uv kv,e = .returned (.agg #[cv,uv,kv,.int .i32 (endOf first long)])∧FrOk w.heap.size (chartOf l) (unitsOf lu) (startsOf first long) w' cv uv kv∧Below w.heap.size w w':=by
 have M6:=hdq (fun W (hb:Below w.heap.size w W)=>zre a cap l W (hE.below hb) hok (by omega))
 have M7:=hdq (fun W (hb:Below w.heap.size w W)=>zrc vu lu W (hU.below hb) hub hul)
 have M8:=hdq (fun W (hb:Below w.heap.size w W)=>zfv first vl long hf hlb (by omega) W (hL.below hb))
 obtain ⟨pu,cu,rfl,_⟩:=hU
 obtain ⟨pl,cl,rfl,_⟩:=hL
 have HL:=hdq (And.intro hl (And.intro hul hll))
 have BX:=zaa (zaa (Below.refl _ w) (.cells #[.slice a l.length cap,.slice pu lu.length cu,.int .i16 first,.slice pl long.length cl,vj] 28)) (.cells #[.slice none 0 0,.slice none 0 0,.slice none 0 0,.int .i32 0] 41)
 have RX:=(Row.new w #[.slice a l.length cap,.slice pu lu.length cu,.int .i16 first,.slice pl long.length cl,vj] 28).alloc (.cells #[.slice none 0 0,.slice none 0 0,.slice none 0 0,.int .i32 0] 41)
 have RR:=Row.new' (w.alloc (.cells #[.slice a l.length cap,.slice pu lu.length cu,.int .i16 first,.slice pl long.length cl,vj] 28)) #[.slice none 0 0,.slice none 0 0,.slice none 0 0,.int .i32 0] 41 (g:=w.heap.size + 1) (by simp)
 clear hE hok hl hub hul hf hlb hll
 go_enter Tryz.func10,Tryz.ntmps10
 go_wp2_with fail
 generalize (w.alloc (.cells #[.slice a l.length cap,.slice pu lu.length cu,.int .i16 first,.slice pl long.length cl,vj] 28)).alloc (.cells #[.slice none 0 0,.slice none 0 0,.slice none 0 0,.int .i32 0] 41) = w0 at *
 obtain ⟨y,hy⟩:∃ y,y = w.heap.size + 1:=⟨_,rfl⟩
 obtain ⟨x,hx⟩:∃ x,x = w.heap.size:=⟨_,rfl⟩
 rw [← hy] at RR ⊢
 rw [← hx] at RX ⊢
 have HXY:=hdq (And.intro hx hy)
 have HRX:=hdq RX
 have HRR:=hdq RR
 have HBX:=hdq BX
 clear hx hy RX RR BX
 obtain ⟨E,hE⟩:∃ E,E = endOf first long:=⟨_,rfl⟩
 refine zbp (n:=14) 13 10 (by kernel_rfl) (fun w'=>Below w0.heap.size w0 w') (fun i w' v=>match i with
   | 2=>w'.ownsRow w0.heap.size 61 4 v l.length ((mk6 l).1.flatMap ac)
   | 5=>w'.ownsRow w0.heap.size 56 1 v (srt (mk7 lu)).length (nv .u16 (srt (mk7 lu)))
   | 10=>∃ kv,v = .agg #[kv,.int .i32 E]∧w'.ownsRow w0.heap.size 37 1 kv (startsOf first long).length (nv .i32 (startsOf first long))
   | 11=>∃ cv uv kv,v = .agg #[cv,uv,kv,.int .i32 E]∧w'.ownsRow w0.heap.size 61 4 cv l.length ((mk6 l).1.flatMap ac)∧w'.ownsRow w0.heap.size 56 1 uv (srt (mk7 lu)).length (nv .u16 (srt (mk7 lu)))∧w'.ownsRow w0.heap.size 37 1 kv (startsOf first long).length (nv .i32 (startsOf first long))
   | 12=>∃ g,v = .pointer (some ⟨g,0,none⟩)∧w0.heap.size≤g∧Row w' g #[.slice none 0 0,.slice none 0 0,.slice none 0 0,.int .i32 0] 41
   | i=>v = (#[.pointer (some ⟨x,0,none⟩),.slice a l.length cap,undef,.pointer (some ⟨x,1,none⟩),.slice pu lu.length cu,undef,.pointer (some ⟨x,2,none⟩),.int .i16 first,.pointer (some ⟨x,3,none⟩),.slice pl long.length cl]:Array Value).getD i undef)
  (fun c v w'=>∃ g cv uv kv,c 12 = .pointer (some ⟨g,0,none⟩)∧w0.heap.size≤g∧Row w' g #[cv,uv,kv,.int .i32 E] 41∧w'.ownsRow w0.heap.size 61 4 cv l.length ((mk6 l).1.flatMap ac)∧w'.ownsRow w0.heap.size 56 1 uv (srt (mk7 lu)).length (nv .u16 (srt (mk7 lu)))∧w'.ownsRow w0.heap.size 37 1 kv (startsOf first long).length (nv .i32 (startsOf first long))∧Below w0.heap.size w0 w') (by kernel_rfl) (by kernel_rfl) (by kernel_rfl) (zat (Below.refl _ _)) rfl (fun _ _ a b=>zab a b) (fun i w1 w2 v hb h=>by
   rcases i with _ | _ | _ | _ | _ | _ | _ | _ | _ | _ | _ | _ | _ | i
   all_goals (first | exact h | exact zai h hb | skip)
   ·obtain ⟨kv,h1,h2⟩:=h; exact ⟨kv,h1,zai h2 hb⟩
   ·obtain ⟨cv,uv,kv,h1,h2,h3,h4⟩:=h; exact ⟨cv,uv,kv,h1,zai h2 hb,zai h3 hb,zai h4 hb⟩
   ·obtain ⟨g,h1,h2,h3⟩:=h; exact ⟨g,h1,h2,h3.below hb⟩) ?_
 intro F Fz hF hFz
 simp only [fill,updV,dstAt] at hF hFz
 simp [Act.put] at hF hFz
 obtain rfl:F = fun c=>_:=funext fun c=>(hF c).symm
 obtain rfl:Fz = fun c v=>_:=funext fun c=>funext fun v=>(hFz c v).symm
 clear hF hFz
 refine ⟨?_,?_,?_⟩
 ·intro i op ho n1 c wx S hG
  have RX:=HRX.out.below S
  have d0:wx.cell? ⟨x,0,none⟩ = some (.slice a l.length cap):=RX.cell 0
  have d1:wx.cell? ⟨x,1,none⟩ = some (.slice pu lu.length cu):=RX.cell 1
  have d2:wx.cell? ⟨x,2,none⟩ = some (.int .i16 first):=RX.cell 2
  have d3:wx.cell? ⟨x,3,none⟩ = some (.slice pl long.length cl):=RX.cell 3
  have BW:=hdq (HBX.out.trans (S.mono HBX.out.size))
  rcases i with _ | _ | _ | _ | _ | _ | _ | _ | _ | _ | _ | _ | _ | _ | i
  all_goals (first | (exact absurd rfl n1) | (simp at ho; done) | (obtain rfl:=Option.some.inj ho))
  ·exact zac _ rfl (by go_simp) ⟨Below.refl _ _,rfl⟩
  ·have g0:c 0 = .pointer (some ⟨x,0,none⟩):=hG 0 rfl (by omega)
   exact zac (.slice a l.length cap) rfl (by simp only [g0]; go_simp) ⟨Below.refl _ _,rfl⟩
  ·have g1:c 1 = .slice a l.length cap:=hG 1 rfl (by omega)
   exact zdu rfl rfl Tryz.func28 (by kernel_rfl) rfl #[.slice a l.length cap] (by simp only [g1]; go_simp) ((M6.out wx BW.out).mono fun e w' ⟨v,h1,h2,h3⟩=>⟨v,h1,h3,ownMono h2 S.size⟩)
  ·exact zac _ rfl (by go_simp) ⟨Below.refl _ _,rfl⟩
  ·have g3:c 3 = .pointer (some ⟨x,1,none⟩):=hG 3 rfl (by omega)
   exact zac (.slice pu lu.length cu) rfl (by simp only [g3]; go_simp) ⟨Below.refl _ _,rfl⟩
  ·have g4:c 4 = .slice pu lu.length cu:=hG 4 rfl (by omega)
   exact zdu rfl rfl Tryz.func29 (by kernel_rfl) rfl #[.slice pu lu.length cu] (by simp only [g4]; go_simp) ((M7.out wx BW.out).mono fun e w' ⟨v,ys,h1,h2,h3,h4,h5⟩=>⟨v,h1,h5,by rw [srt_eq h2 h3] at h4; exact ownMono h4 S.size⟩)
  ·exact zac _ rfl (by go_simp) ⟨Below.refl _ _,rfl⟩
  ·have g6:c 6 = .pointer (some ⟨x,2,none⟩):=hG 6 rfl (by omega)
   exact zac (.int .i16 first) rfl (by simp only [g6]; go_simp) ⟨Below.refl _ _,rfl⟩
  ·exact zac _ rfl (by go_simp) ⟨Below.refl _ _,rfl⟩
  ·have g8:c 8 = .pointer (some ⟨x,3,none⟩):=hG 8 rfl (by omega)
   exact zac (.slice pl long.length cl) rfl (by simp only [g8]; go_simp) ⟨Below.refl _ _,rfl⟩
  ·have g7:c 7 = .int .i16 first:=hG 7 rfl (by omega)
   have g9:c 9 = .slice pl long.length cl:=hG 9 rfl (by omega)
   exact zdu rfl rfl Tryz.func30 (by kernel_rfl) rfl #[.int .i16 first,.slice pl long.length cl] (by simp only [g7,g9]; go_simp) ((M8.out wx BW.out).mono fun e w' ⟨v,h1,h2,h3⟩=>⟨_,h1,h3,v,by rw [hE]; rfl,by
    have hs:(startsOf first long).length = min long.length 12 + 1:=by unfold startsOf Sc.mkStarts; simp
    rw [hs]
    exact ownMono h2 S.size⟩)
  ·have g2:=hG 2 rfl (by omega)
   have g5:=hG 5 rfl (by omega)
   obtain ⟨kv,g10,h10⟩:=hG 10 rfl (by omega)
   obtain ⟨p2,c2,e2⟩:=zaj g2
   obtain ⟨p5,c5,e5⟩:=zaj g5
   obtain ⟨p10,c10,rfl⟩:=zaj h10
   exact zac (.agg #[c 2,c 5,.slice p10 (startsOf first long).length c10,.int .i32 E]) rfl (by simp only [g10,e2,e5]; go_simp) ⟨Below.refl _ _,_,_,_,rfl,g2,g5,h10⟩
  ·exact zer _ (wx.alloc (.cells #[.slice none 0 0,.slice none 0 0,.slice none 0 0,.int .i32 0] 41)) rfl (by go_simp) ⟨zaa (Below.refl _ wx) _,wx.heap.size,rfl,S.size,Row.new wx _ _⟩
 ·intro op ho c wx S hG
  obtain rfl:=Option.some.inj ho
  obtain ⟨g,g12,hg,RG⟩:=hG 12 (by omega) (by omega)
  obtain ⟨cv,uv,kv,g11,o1,o2,o3⟩:=hG 11 (by omega) (by omega)
  obtain ⟨p1,c1,rfl⟩:=zaj o1
  obtain ⟨p2,c2,rfl⟩:=zaj o2
  obtain ⟨p3,c3,rfl⟩:=zaj o3
  have t1:=zbz o1 RG (by show ¬ (41:Nat) = 61; omega)
  have t2:=zbz o2 RG (by show ¬ (41:Nat) = 56; omega)
  have t3:=zbz o3 RG (by show ¬ (41:Nat) = 37; omega)
  refine zjz (S:=fun w'=>Row w' g _ 41∧Stored wx g w') (zdl rfl 41 _ _ rfl g _ g12 g11 RG (by kernel_rfl) rfl (by simp [Value.oneCell']) (fun w1 R1 S1=>⟨R1,S1⟩)) (fun w' ⟨R1,S1⟩=>⟨g,_,_,_,g12,hg,R1,zak o1 S1 t1,zak o2 S1 t2,zak o3 S1 t3,S1.below S hg⟩)
 ·rintro c v wx ⟨g,cv,uv,kv,g12,hg,RG,o1,o2,o3,SX⟩
  simp only [g12]
  obtain ⟨p1,c1,rfl⟩:=zaj o1
  obtain ⟨p2,c2,rfl⟩:=zaj o2
  obtain ⟨p3,c3,rfl⟩:=zaj o3
  have hyg:y ≠ g:=by have:=HRR.out.lt; omega
  have hgw:w.heap.size≤g:=by have:=HBX.out.size; omega
  have RY:=HRR.out.below SX
  have BW:=HBX.out.trans (SX.mono HBX.out.size)
  have o1':=ownMono o1 HBX.out.size
  have o2':=ownMono o2 HBX.out.size
  have o3':=ownMono o3 HBX.out.size
  have hlen6:=zkn l
  have hu7:(srt (mk7 lu)).length = (mk7 lu).length:=(List.mergeSort_perm (mk7 lu) _).length_eq
  have HS:=hdq (And.intro hyg (And.intro hgw (And.intro hlen6 hu7)))
  have HRG:=hdq RG
  have HRY:=hdq RY
  have HBW:=hdq BW
  have HO:=hdq (And.intro o1' (And.intro o2' o3'))
  have HEE:=hdq hE
  have HW0:=hdq hg
  clear g12 hg RG o1 o2 o3 SX hyg hgw RY BW o1' o2' o3' hlen6 hu7 hE
  have b0:wx.cell? ⟨g,0,none⟩ = some (.slice p1 l.length c1):=HRG.out.cell 0
  by_cases hc:l.length = 0
  ·have q1:((l.length:Int) == 0) = true:=by rw [hc]; rfl
   have HC:=hdq hc
   clear hc
   have cA:(wx.alloc (.cells #[.int .u32 7,.string ⟨#[67,97,115,104]⟩,.int .u8 0,.int .u32 0] 61)).cell? ⟨g,0,none⟩ = some (.slice p1 l.length c1):=(HRG.out.alloc _).cell 0
   have fA:(wx.alloc (.cells #[.int .u32 7,.string ⟨#[67,97,115,104]⟩,.int .u8 0,.int .u32 0] 61)).frozen? ⟨g,0,none⟩ = false:=(HRG.out.alloc _).frozen 0
   obtain ⟨w1,hw1⟩:∃ w1,w1 = (wx.alloc (.cells #[.int .u32 7,.string ⟨#[67,97,115,104]⟩,.int .u8 0,.int .u32 0] 61)).setCell ⟨g,0,none⟩ (.slice (some ⟨wx.heap.size,0,none⟩) 1 1):=⟨_,rfl⟩
   have SX1:Stored (wx.alloc (.cells #[.int .u32 7,.string ⟨#[67,97,115,104]⟩,.int .u8 0,.int .u32 0] 61)) g w1:=by rw [hw1]; exact zaf _ _ _ _
   have HRG1:Hid (Row w1 g #[.slice (some ⟨wx.heap.size,0,none⟩) 1 1,.slice p2 (srt (mk7 lu)).length c2,.slice p3 (startsOf first long).length c3,.int .i32 E] 41):=hdq (by rw [hw1]; exact (HRG.out.alloc _).set 0 _)
   have HRY1:Hid (Row w1 y #[.slice none 0 0,.slice none 0 0,.slice none 0 0,.int .i32 0] 41):=hdq (by rw [hw1]; exact (HRY.out.alloc _).other ⟨g,0,none⟩ HS.out.1 _)
   have HBW1:=hdq (SX1.below (zaa HBW.out (.cells #[.int .u32 7,.string ⟨#[67,97,115,104]⟩,.int .u8 0,.int .u32 0] 61)) HS.out.2.1)
   have RC:Row (wx.alloc (.cells #[.int .u32 7,.string ⟨#[67,97,115,104]⟩,.int .u8 0,.int .u32 0] 61)) wx.heap.size #[.int .u32 7,.string ⟨#[67,97,115,104]⟩,.int .u8 0,.int .u32 0] 61:=Row.new wx _ _
   have HO1:Hid (FrOk w.heap.size (chartOf l) (srt (mk7 lu)) (startsOf first long) w1 (.slice (some ⟨wx.heap.size,0,none⟩) 1 1) (.slice p2 (srt (mk7 lu)).length c2) (.slice p3 (startsOf first long).length c3)):=hdq (by
    have e:chartOf l = [cash]:=by unfold chartOf; rw [if_pos HC.out]
    rw [e]
    exact FrOk.stored (⟨⟨rfl,.inr ⟨_,1,_,rfl,HBW.out.size,RC,Nat.le_refl _,by unfold maxLen; omega,rfl,rfl⟩⟩,zan HO.out.2.1 _,zan HO.out.2.2 _⟩:FrOk _ [cash] _ _ _ _ _ _) (HRG.out.alloc _) SX1)
   have HE1:=hdq hw1
   clear hw1 SX1 RC
   have b1:w1.cell? ⟨g,1,none⟩ = some (.slice p2 (srt (mk7 lu)).length c2):=HRG1.out.cell 1
   by_cases hu:(mk7 lu).length = 0
   ·have q2:(((srt (mk7 lu)).length:Int) == 0) = true:=by rw [HS.out.2.2.2,hu]; rfl
    have HU:=hdq hu
    clear hu
    have cB:(w1.alloc (.cells #[.int .u16 5] 56)).cell? ⟨g,1,none⟩ = some (.slice p2 (srt (mk7 lu)).length c2):=(HRG1.out.alloc _).cell 1
    have fB:(w1.alloc (.cells #[.int .u16 5] 56)).frozen? ⟨g,1,none⟩ = false:=(HRG1.out.alloc _).frozen 1
    have HG2:Hid (Row ((w1.alloc (.cells #[.int .u16 5] 56)).setCell ⟨g,1,none⟩ (.slice (some ⟨w1.heap.size,0,none⟩) 1 1)) g #[.slice (some ⟨wx.heap.size,0,none⟩) 1 1,.slice (some ⟨w1.heap.size,0,none⟩) 1 1,.slice p3 (startsOf first long).length c3,.int .i32 E] 41):=hdq ((HRG1.out.alloc _).set 1 _)
    have HY2:Hid (Row ((w1.alloc (.cells #[.int .u16 5] 56)).setCell ⟨g,1,none⟩ (.slice (some ⟨w1.heap.size,0,none⟩) 1 1)) y #[.slice none 0 0,.slice none 0 0,.slice none 0 0,.int .i32 0] 41):=hdq ((HRY1.out.alloc _).other ⟨g,1,none⟩ HS.out.1 _)
    have SX2:=zaf (w1.alloc (.cells #[.int .u16 5] 56)) g 1 (.slice (some ⟨w1.heap.size,0,none⟩) 1 1)
    have HB2:=hdq (SX2.below (zaa HBW1.out (.cells #[.int .u16 5] 56)) HS.out.2.1)
    have RU:Row (w1.alloc (.cells #[.int .u16 5] 56)) w1.heap.size #[.int .u16 5] 56:=Row.new w1 _ _
    have HF2:Hid (FrOk w.heap.size (chartOf l) (unitsOf lu) (startsOf first long) ((w1.alloc (.cells #[.int .u16 5] 56)).setCell ⟨g,1,none⟩ (.slice (some ⟨w1.heap.size,0,none⟩) 1 1)) (.slice (some ⟨wx.heap.size,0,none⟩) 1 1) (.slice (some ⟨w1.heap.size,0,none⟩) 1 1) (.slice p3 (startsOf first long).length c3)):=hdq (by
     have e:unitsOf lu = [5]:=by unfold unitsOf; rw [if_pos HU.out]
     rw [e]
     exact FrOk.stored (⟨zan HO1.out.1 _,⟨rfl,.inr ⟨_,1,_,rfl,HBW1.out.size,RU,Nat.le_refl _,by unfold maxLen; omega,rfl,rfl⟩⟩,zan HO1.out.2.2 _⟩:FrOk _ _ [5] _ _ _ _ _) (HRG1.out.alloc _) SX2)
    clear SX2 RU
    go_wp2_with (first | (simp only [← HE1.out]) | (refine zaq (N:=29) rfl rfl 41 _ rfl g rfl HG2.out _ Tryz.underlying41 rfl (by kernel_rfl) ?_) | (refine zad rfl 41 _ _ rfl y _ rfl rfl HY2.out (by kernel_rfl) rfl (by simp [Value.oneCell']) rfl ?_; intro w3 RZ S3))
    exact bodyPost_ret (v:=.agg #[.slice (some ⟨wx.heap.size,0,none⟩) 1 1,.slice (some ⟨w1.heap.size,0,none⟩) 1 1,.slice p3 (startsOf first long).length c3,.int .i32 E]) (zau rfl _ _ RZ rfl Tryz.underlying41 rfl (by kernel_rfl)) rfl ⟨_,_,_,by rw [HEE.out],FrOk.stored HF2.out HY2.out S3,S3.below HB2.out (by have:=HXY.out; omega)⟩
   ·have q2:(((srt (mk7 lu)).length:Int) == 0) = false:=beq_eq_false_iff_ne.2 (by rw [HS.out.2.2.2]; omega)
    have HU:=hdq hu
    clear hu
    have HF2:Hid (FrOk w.heap.size (chartOf l) (unitsOf lu) (startsOf first long) w1 (.slice (some ⟨wx.heap.size,0,none⟩) 1 1) (.slice p2 (srt (mk7 lu)).length c2) (.slice p3 (startsOf first long).length c3)):=hdq (by
     have e:unitsOf lu = srt (mk7 lu):=by unfold unitsOf; rw [if_neg HU.out]
     rw [e]
     exact HO1.out)
    go_wp2_with (first | (simp only [← HE1.out]) | (refine zaq (N:=29) rfl rfl 41 _ rfl g rfl HRG1.out _ Tryz.underlying41 rfl (by kernel_rfl) ?_) | (refine zad rfl 41 _ _ rfl y _ rfl rfl HRY1.out (by kernel_rfl) rfl (by simp [Value.oneCell']) rfl ?_; intro w3 RZ S3))
    exact bodyPost_ret (v:=.agg #[.slice (some ⟨wx.heap.size,0,none⟩) 1 1,.slice p2 (srt (mk7 lu)).length c2,.slice p3 (startsOf first long).length c3,.int .i32 E]) (zau rfl _ _ RZ rfl Tryz.underlying41 rfl (by kernel_rfl)) rfl ⟨_,_,_,by rw [HEE.out],FrOk.stored HF2.out HRY1.out S3,S3.below HBW1.out (by have:=HXY.out; omega)⟩
  ·have q1:((l.length:Int) == 0) = false:=beq_eq_false_iff_ne.2 (by omega)
   have HC:=hdq hc
   clear hc
   have HRG1:=HRG
   have HRY1:=HRY
   have HBW1:=HBW
   have HO1:Hid (FrOk w.heap.size (chartOf l) (srt (mk7 lu)) (startsOf first long) wx (.slice p1 l.length c1) (.slice p2 (srt (mk7 lu)).length c2) (.slice p3 (startsOf first long).length c3)):=hdq (by
    have e:chartOf l = (mk6 l).1:=by unfold chartOf; rw [if_neg HC.out]
    rw [e]
    exact ⟨by rw [HS.out.2.2.1]; exact HO.out.1,HO.out.2⟩)
   have b1:wx.cell? ⟨g,1,none⟩ = some (.slice p2 (srt (mk7 lu)).length c2):=HRG1.out.cell 1
   by_cases hu:(mk7 lu).length = 0
   ·have q2:(((srt (mk7 lu)).length:Int) == 0) = true:=by rw [HS.out.2.2.2,hu]; rfl
    have HU:=hdq hu
    clear hu
    have cB:(wx.alloc (.cells #[.int .u16 5] 56)).cell? ⟨g,1,none⟩ = some (.slice p2 (srt (mk7 lu)).length c2):=(HRG1.out.alloc _).cell 1
    have fB:(wx.alloc (.cells #[.int .u16 5] 56)).frozen? ⟨g,1,none⟩ = false:=(HRG1.out.alloc _).frozen 1
    have HG2:Hid (Row ((wx.alloc (.cells #[.int .u16 5] 56)).setCell ⟨g,1,none⟩ (.slice (some ⟨wx.heap.size,0,none⟩) 1 1)) g #[.slice p1 l.length c1,.slice (some ⟨wx.heap.size,0,none⟩) 1 1,.slice p3 (startsOf first long).length c3,.int .i32 E] 41):=hdq ((HRG1.out.alloc _).set 1 _)
    have HY2:Hid (Row ((wx.alloc (.cells #[.int .u16 5] 56)).setCell ⟨g,1,none⟩ (.slice (some ⟨wx.heap.size,0,none⟩) 1 1)) y #[.slice none 0 0,.slice none 0 0,.slice none 0 0,.int .i32 0] 41):=hdq ((HRY1.out.alloc _).other ⟨g,1,none⟩ HS.out.1 _)
    have SX2:=zaf (wx.alloc (.cells #[.int .u16 5] 56)) g 1 (.slice (some ⟨wx.heap.size,0,none⟩) 1 1)
    have HB2:=hdq (SX2.below (zaa HBW1.out (.cells #[.int .u16 5] 56)) HS.out.2.1)
    have RU:Row (wx.alloc (.cells #[.int .u16 5] 56)) wx.heap.size #[.int .u16 5] 56:=Row.new wx _ _
    have HF2:Hid (FrOk w.heap.size (chartOf l) (unitsOf lu) (startsOf first long) ((wx.alloc (.cells #[.int .u16 5] 56)).setCell ⟨g,1,none⟩ (.slice (some ⟨wx.heap.size,0,none⟩) 1 1)) (.slice p1 l.length c1) (.slice (some ⟨wx.heap.size,0,none⟩) 1 1) (.slice p3 (startsOf first long).length c3)):=hdq (by
     have e:unitsOf lu = [5]:=by unfold unitsOf; rw [if_pos HU.out]
     rw [e]
     exact FrOk.stored (⟨zan HO1.out.1 _,⟨rfl,.inr ⟨_,1,_,rfl,HBW1.out.size,RU,Nat.le_refl _,by unfold maxLen; omega,rfl,rfl⟩⟩,zan HO1.out.2.2 _⟩:FrOk _ _ [5] _ _ _ _ _) (HRG1.out.alloc _) SX2)
    clear SX2 RU
    go_wp2_with (first | (refine zaq (N:=29) rfl rfl 41 _ rfl g rfl HG2.out _ Tryz.underlying41 rfl (by kernel_rfl) ?_) | (refine zad rfl 41 _ _ rfl y _ rfl rfl HY2.out (by kernel_rfl) rfl (by simp [Value.oneCell']) rfl ?_; intro w3 RZ S3))
    exact bodyPost_ret (v:=.agg #[.slice p1 l.length c1,.slice (some ⟨wx.heap.size,0,none⟩) 1 1,.slice p3 (startsOf first long).length c3,.int .i32 E]) (zau rfl _ _ RZ rfl Tryz.underlying41 rfl (by kernel_rfl)) rfl ⟨_,_,_,by rw [HEE.out],FrOk.stored HF2.out HY2.out S3,S3.below HB2.out (by have:=HXY.out; omega)⟩
   ·have q2:(((srt (mk7 lu)).length:Int) == 0) = false:=beq_eq_false_iff_ne.2 (by rw [HS.out.2.2.2]; omega)
    have HU:=hdq hu
    clear hu
    have HF2:Hid (FrOk w.heap.size (chartOf l) (unitsOf lu) (startsOf first long) wx (.slice p1 l.length c1) (.slice p2 (srt (mk7 lu)).length c2) (.slice p3 (startsOf first long).length c3)):=hdq (by
     have e:unitsOf lu = srt (mk7 lu):=by unfold unitsOf; rw [if_neg HU.out]
     rw [e]
     exact HO1.out)
    go_wp2_with (first | (refine zaq (N:=29) rfl rfl 41 _ rfl g rfl HRG1.out _ Tryz.underlying41 rfl (by kernel_rfl) ?_) | (refine zad rfl 41 _ _ rfl y _ rfl rfl HRY1.out (by kernel_rfl) rfl (by simp [Value.oneCell']) rfl ?_; intro w3 RZ S3))
    exact bodyPost_ret (v:=.agg #[.slice p1 l.length c1,.slice p2 (srt (mk7 lu)).length c2,.slice p3 (startsOf first long).length c3,.int .i32 E]) (zau rfl _ _ RZ rfl Tryz.underlying41 rfl (by kernel_rfl)) rfl ⟨_,_,_,by rw [HEE.out],FrOk.stored HF2.out HRY1.out S3,S3.below HBW1.out (by have:=HXY.out; omega)⟩
end Go.Proofs.YtlpdfglbdijkoaaGreatDoor