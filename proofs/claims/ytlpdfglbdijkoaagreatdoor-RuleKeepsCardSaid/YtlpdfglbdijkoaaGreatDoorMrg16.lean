/-
  Own texts, several in one (ParseD, Lex, LexO, LexS).
-/
import Derived.Test.YtlpdfglbdijkoaaGreatDoorMrg15
namespace Go.Proofs.YtlpdfglbdijkoaaGreatDoor
open Go.RowKit
set_option linter.unusedVariables false
set_option linter.unusedSimpArgs false
def AtoiIs (o:Option Int) (r:Value):Prop:=match o with
 | some n=>r = .tuple #[.int .i64 n,.nilIface]
 | none=>∃ t x,r = .tuple #[.int .i64 0,.iface t x]
theorem zhr (s:ByteArray) (hl:s.size≤18) (w:World) (hG:Glb w) :
  Calls Tryz.prog 208 #[.string s] w fun e w'=>(∃ r,e = .returned r∧AtoiIs (Lib.atoi s.data.toList) r)∧Below w.heap.size w w':=by
 rcases h:Lib.atoi s.data.toList with _ | n
 ·obtain ⟨t,p,hv⟩:=hG.synt
  refine (Any.strconv_Atoi_err Tryz.laysC172 s hl h _ w (zfc hv (by kernel_rfl) 0) (.inr ⟨t,p,rfl⟩)).mono ?_
  rintro e w' ⟨N,rfl,_,_,hb⟩
  exact ⟨⟨_,rfl,_,_,rfl⟩,hb⟩
 ·refine (Any.strconv_Atoi Tryz.lays172 s n hl h w).mono ?_
  rintro e w' ⟨rfl,t,rfl⟩
  exact ⟨⟨_,rfl,rfl⟩,Lib.bytesWorld_below w _ t⟩
namespace Dy
def txt (y n:Int):List UInt8:=dayT y ((md n y).1:Int) ((md n y).2 + 1)
def parse3 (a b c:Option Int) (l:List UInt8):Option Int:=match a,b,c with
 | some y,some m,some d=>match of y m d with
  | some n=>if txt y n = l then some n else none
  | none=>none
 | _,_,_=>none
def parse (l:List UInt8):Option Int :=
 if l.length = 10∧(l.getD 4 0).toNat = 45∧(l.getD 7 0).toNat = 45 then parse3 (Lib.atoi (l.take 4)) (Lib.atoi ((l.drop 5).take 2)) (Lib.atoi (l.drop 8)) l else none
end Dy
theorem AtoiIs.shape {o:Option Int} {r:Value} (h:AtoiIs o r):∃ n e,r = .tuple #[.int .i64 n,e]:=by
 rcases o with _ | n
 ·obtain ⟨t,x,h⟩:=h; exact ⟨_,_,h⟩
 ·exact ⟨_,_,h⟩
set_option maxHeartbeats 4000000 in
theorem parseD3 (s:ByteArray) (l:List UInt8) (hl:l = s.data.toList) (c1:l.length = 10) (c2:(l.getD 4 0).toNat = 45) (c3:(l.getD 7 0).toNat = 45) (w:World) (hM:Glb5 w) :
  Calls Tryz.prog 184 #[.string s] w fun e w'=>e = .returned (ofV (Dy.parse l))∧Below w.heap.size w w':=by
 have hsz:s.size = l.length:=by rw [hl]; exact zbb s
 have hg:∀ i (h:i < s.size),(s[i]'h).toNat = (l.getD i 0).toNat:=fun i h=>by rw [hl,zbt]
 have hs10:s.size = 10:=by omega
 have g4:∀ h:4 < s.size,(s[4]'h).toNat = (l.getD 4 0).toNat:=fun h=>hg 4 h
 have g7:∀ h:7 < s.size,(s[7]'h).toNat = (l.getD 7 0).toNat:=fun h=>hg 7 h
 have hp:Dy.parse l = Dy.parse3 (Lib.atoi (l.take 4)) (Lib.atoi ((l.drop 5).take 2)) (Lib.atoi (l.drop 8)) l:=by unfold Dy.parse; rw [if_pos ⟨c1,c2,c3⟩]
 rw [hp]
 have HG:=hdq hM
 have HA:=hdq fun W hW=>zhr (s.extract 0 4) (by rw [zbb,Lib.extract_data]; simp; omega) W hW
 have HB:=hdq fun W hW=>zhr (s.extract 5 7) (by rw [zbb,Lib.extract_data]; simp; omega) W hW
 have HC:=hdq fun W hW=>zhr (s.extract 8 10) (by rw [zbb,Lib.extract_data]; simp; omega) W hW
 rw [Lib.extract_data,← hl] at HA HB HC
 rw [show (l.drop 0).take (4 - 0) = l.take 4 by simp] at HA
 rw [show (l.drop 8).take (10 - 8) = l.drop 8 by rw [List.take_of_length_le]; simp; omega] at HC
 rw [show 7 - 5 = 2 by rfl] at HB
 generalize Lib.atoi (l.take 4) = a at *
 generalize Lib.atoi ((l.drop 5).take 2) = b at *
 generalize Lib.atoi (l.drop 8) = c at *
 have HSL:=hdq (And.intro hl hsz)
 rw [c2] at g4
 rw [c3] at g7
 clear hp c1 c2 c3 hg hM hl hsz
 go_enter Tryz.func184,Tryz.ntmps184
 go_wp2_with fail
 refine (HA.out _ HG.out.glb).mono ?_
 rintro _ w1 ⟨⟨r1,rfl,q1⟩,hb1⟩
 have HB1:=hdq hb1
 have HQ1:=hdq q1
 obtain ⟨n1,e1,rfl⟩:=q1.shape
 clear hb1 q1
 go_wp2_with fail
 refine (HB.out _ (HG.out.glb.below HB1.out)).mono ?_
 rintro _ w2 ⟨⟨r2,rfl,q2⟩,hb2⟩
 have HB2:=hdq (zab HB1.out hb2)
 have HQ2:=hdq q2
 obtain ⟨n2,e2,rfl⟩:=q2.shape
 clear hb2 q2
 go_wp2_with fail
 refine (HC.out _ (HG.out.glb.below HB2.out)).mono ?_
 rintro _ w3 ⟨⟨r3,rfl,q3⟩,hb3⟩
 have HB3:=hdq (zab HB2.out hb3)
 have HQ3:=hdq q3
 obtain ⟨n3,e3,rfl⟩:=q3.shape
 clear hb3 q3
 have bad:∀ x y z:Option Int,x = none∨y = none∨z = none→ofV (Dy.parse3 x y z l) = .tuple #[.int .i32 0,.bool false]:=fun x y z h=>by
  rcases x with _ | x
  ·rfl
  ·rcases y with _ | y
   ·rfl
   ·rcases z with _ | z
    ·rfl
    ·simp at h
 have HBAD:=hdq bad
 clear bad
 rcases a with _ | a
 ·obtain ⟨t1,x1,h⟩:=HQ1.out
  simp only [Value.tuple.injEq,Array.mk.injEq,List.cons.injEq,Value.int.injEq,and_true,true_and] at h
  obtain ⟨rfl,rfl⟩:=h
  go_wp2_with fail
  exact bodyPost_ret (v:=.tuple #[.int .i32 0,.bool false]) (by simp [results,Tryz.results184,go_sem]) rfl ⟨congrArg Ending.returned (HBAD.out _ _ _ (.inl rfl)).symm,HB3.out⟩
 ·have h:=HQ1.out
  simp only [AtoiIs,Value.tuple.injEq,Array.mk.injEq,List.cons.injEq,Value.int.injEq,and_true,true_and] at h
  obtain ⟨rfl,rfl⟩:=h
  rcases b with _ | b
  ·obtain ⟨t2,x2,h⟩:=HQ2.out
   simp only [Value.tuple.injEq,Array.mk.injEq,List.cons.injEq,Value.int.injEq,and_true,true_and] at h
   obtain ⟨rfl,rfl⟩:=h
   go_wp2_with fail
   exact bodyPost_ret (v:=.tuple #[.int .i32 0,.bool false]) (by simp [results,Tryz.results184,go_sem]) rfl ⟨congrArg Ending.returned (HBAD.out _ _ _ (.inr (.inl rfl))).symm,HB3.out⟩
  ·have h:=HQ2.out
   simp only [AtoiIs,Value.tuple.injEq,Array.mk.injEq,List.cons.injEq,Value.int.injEq,and_true,true_and] at h
   obtain ⟨rfl,rfl⟩:=h
   rcases c with _ | c
   ·obtain ⟨t3,x3,h⟩:=HQ3.out
    simp only [Value.tuple.injEq,Array.mk.injEq,List.cons.injEq,Value.int.injEq,and_true,true_and] at h
    obtain ⟨rfl,rfl⟩:=h
    go_wp2_with fail
    exact bodyPost_ret (v:=.tuple #[.int .i32 0,.bool false]) (by simp [results,Tryz.results184,go_sem]) rfl ⟨congrArg Ending.returned (HBAD.out _ _ _ (.inr (.inr rfl))).symm,HB3.out⟩
   ·have h:=HQ3.out
    simp only [AtoiIs,Value.tuple.injEq,Array.mk.injEq,List.cons.injEq,Value.int.injEq,and_true,true_and] at h
    obtain ⟨rfl,rfl⟩:=h
    have HO:=hdq (zsa n1 n2 n3 w3 (HG.out.below HB3.out))
    rcases ho:Dy.of n1 n2 n3 with _ | n
    ·rw [ho] at HO
     have HP:=hdq (show ofV (Dy.parse3 (some n1) (some n2) (some n3) l) = .tuple #[.int .i32 0,.bool false] by unfold Dy.parse3; dsimp only; rw [ho]; rfl)
     clear ho HBAD
     unfold ofV at HO
     go_wp2_with fail
     refine HO.out.mono ?_
     rintro _ w4 ⟨rfl,rfl⟩
     go_wp2_with fail
     exact bodyPost_ret (v:=.tuple #[.int .i32 0,.bool false]) (by simp [results,Tryz.results184,go_sem]) rfl ⟨congrArg Ending.returned HP.out.symm,HB3.out⟩
    ·rw [ho] at HO
     obtain ⟨y1,y2,y3,y4⟩:=Dy.of_year ho
     have HT:=hdq (zdg n n1 ⟨y1,y2⟩ y3 y4 w3 (HG.out.below HB3.out))
     change Hid (Calls _ _ _ _ fun e w'=>e = .returned (.string ⟨(Dy.txt n1 n).toArray⟩)∧_) at HT
     have hpp:Dy.parse3 (some n1) (some n2) (some n3) l = if Dy.txt n1 n = l then some n else none:=by unfold Dy.parse3; dsimp only; rw [ho]
     have HP:=hdq hpp
     clear ho HBAD y1 y2 y3 y4 hpp
     generalize Dy.txt n1 n = t at *
     unfold ofV at HO
     go_wp2_with fail
     refine HO.out.mono ?_
     rintro _ w4 ⟨rfl,rfl⟩
     go_wp2_with fail
     refine HT.out.mono ?_
     rintro _ w5 ⟨rfl,hb5⟩
     have HB5:=hdq (zab HB3.out hb5)
     clear hb5
     have hsl:s.toList = l:=by rw [Lib.toList_data]; exact HSL.out.1.symm
     by_cases hq:t = l
     ·have HP2:=hdq (show ofV (Dy.parse3 (some n1) (some n2) (some n3) l) = .tuple #[.int .i32 n,.bool true] by rw [HP.out,if_pos hq]; rfl)
      have hb:(t == s.toList) = true:=by rw [hsl,hq]; simp
      clear hq hsl
      go_wp2_with fail
      exact bodyPost_ret (v:=.tuple #[.int .i32 n,.bool true]) (by simp [results,Tryz.results184,go_sem]) rfl ⟨congrArg Ending.returned HP2.out.symm,HB5.out⟩
     ·have HP2:=hdq (show ofV (Dy.parse3 (some n1) (some n2) (some n3) l) = .tuple #[.int .i32 0,.bool false] by rw [HP.out,if_neg hq]; rfl)
      have hb:(t == s.toList) = false:=by rw [hsl]; exact beq_eq_false_iff_ne.2 hq
      clear hq hsl
      go_wp2_with fail
      exact bodyPost_ret (v:=.tuple #[.int .i32 0,.bool false]) (by simp [results,Tryz.results184,go_sem]) rfl ⟨congrArg Ending.returned HP2.out.symm,HB5.out⟩
set_option maxHeartbeats 1000000 in
theorem znn (s:ByteArray) (w:World) (hM:Glb5 w) :
  Calls Tryz.prog 184 #[.string s] w fun e w'=>e = .returned (ofV (Dy.parse s.data.toList))∧Below w.heap.size w w':=by
 obtain ⟨l,hl⟩:∃ l,l = s.data.toList:=⟨_,rfl⟩
 have hsz:s.size = l.length:=by rw [hl]; exact zbb s
 have hg:∀ i (h:i < s.size),(s[i]'h).toNat = (l.getD i 0).toNat:=fun i h=>by rw [hl,zbt]
 rw [← hl]
 have bad:¬ (l.length = 10∧(l.getD 4 0).toNat = 45∧(l.getD 7 0).toNat = 45)→ofV (Dy.parse l) = .tuple #[.int .i32 0,.bool false]:=fun h=>by unfold Dy.parse; rw [if_neg h]; rfl
 by_cases c1:l.length = 10
 ·have hs10:s.size = 10:=by omega
  have g4:∀ h:4 < s.size,(s[4]'h).toNat = (l.getD 4 0).toNat:=fun h=>hg 4 h
  have g7:∀ h:7 < s.size,(s[7]'h).toNat = (l.getD 7 0).toNat:=fun h=>hg 7 h
  by_cases c2:(l.getD 4 0).toNat = 45
  ·by_cases c3:(l.getD 7 0).toNat = 45
   ·exact parseD3 s l hl c1 c2 c3 w hM
   ·rw [bad fun h=>c3 h.2.2]
    rw [c2] at g4
    have q7:(((l.getD 7 0).toNat:Int) != 45) = true:=bne_iff_ne.2 (by omega)
    generalize (l.getD 7 0).toNat = b7 at *
    clear c1 c2 c3 hg hl bad hM hsz
    go_enter Tryz.func184,Tryz.ntmps184
    go_wp2_with fail
    exact bodyPost_ret (v:=.tuple #[.int .i32 0,.bool false]) (by simp [results,Tryz.results184,go_sem]) rfl ⟨rfl,Below.refl _ _⟩
  ·rw [bad fun h=>c2 h.2.1]
   have q4:(((l.getD 4 0).toNat:Int) != 45) = true:=bne_iff_ne.2 (by omega)
   generalize (l.getD 4 0).toNat = b4 at *
   clear c1 c2 hg hl bad hM hsz g7
   go_enter Tryz.func184,Tryz.ntmps184
   go_wp2_with fail
   exact bodyPost_ret (v:=.tuple #[.int .i32 0,.bool false]) (by simp [results,Tryz.results184,go_sem]) rfl ⟨rfl,Below.refl _ _⟩
 ·rw [bad fun h=>c1 h.1]
  have q0:((s.size:Int) != 10) = true:=by simp; omega
  clear c1 hg hl bad hM hsz
  go_enter Tryz.func184,Tryz.ntmps184
  go_wp2_with fail
  exact bodyPost_ret (v:=.tuple #[.int .i32 0,.bool false]) (by simp [results,Tryz.results184,go_sem]) rfl ⟨rfl,Below.refl _ _⟩
def tk (t:Lx.Tk):List Value:=[.int .i64 (t.kind:Int),.string ⟨t.text.toArray⟩,.int .i64 t.num,.int .i32 t.day,.int .i64 (t.pos:Int)]
theorem zbi (t:Lx.Tk):(tk t).toArray.all (·.oneCell') = true:=by simp [tk,Value.oneCell']
theorem zav (t:Lx.Tk):(Tryz.prog.info? 159).map (·.size) = some (tk t).toArray.size:=by show _ = some 5; kernel_rfl
def exV:Except Nat (Lx.Tk × Nat)→Value
 | .ok (t,n)=>.tuple #[.agg (tk t).toArray,.int .i64 (n:Int),.int .i64 0]
 | .error e=>.tuple #[.agg (tk Lx.tk0).toArray,.int .i64 0,.int .i64 (e:Int)]
theorem zsr (s:ByteArray):s = ⟨s.data.toList.toArray⟩:=by apply ByteArray.ext; simp
theorem zpl (s:ByteArray) (a b:Nat):s.extract a b = ⟨((s.data.toList.drop a).take (b - a)).toArray⟩:=by
 rw [zsr (s.extract a b),Lib.extract_data]
theorem zud (l:List UInt8) (c:UInt8):decide (0≤Lib.indexByte l c) = decide (c ∈ l):=by
 rw [Bool.eq_iff_iff,decide_eq_true_iff,decide_eq_true_iff]
 constructor
 ·intro h
  obtain ⟨o,ho⟩:∃ o:Nat,Lib.indexByte l c = o:=⟨(Lib.indexByte l c).toNat,by omega⟩
  exact List.mem_of_getElem? (Lib.indexByte_some ho).1
 ·intro h
  by_cases e:Lib.indexByte l c = -1
  ·obtain ⟨k,hk⟩:=List.getElem?_of_mem h
   exact absurd hk (Lib.indexByte_none e k)
  ·have:=Lib.indexByte_ge l c
   omega
theorem zck (s:ByteArray) (c:UInt8) (w:World) :
  Calls Tryz.prog 155 #[.string s,.string ⟨#[c]⟩] w fun e w'=>e = .returned (.bool (decide (c ∈ s.data.toList)))∧w' = w:=by
 have h:=Any.strings_Contains_one Tryz.lays144 s c w
 rwa [zud] at h
theorem zaw (w:World):(zeroValue 159).run Tryz.prog w = .ok (.agg (tk Lx.tk0).toArray) w:=by kernel_rfl
theorem dig_bd (l:List UInt8) (h:∀ b ∈ l,48≤b.toNat∧b.toNat≤57):∀ k,k≤l.length→0≤Lx.dig (l.take k)∧Lx.dig (l.take k) < 10 ^ k:=by
 intro k
 induction k with
 | zero=>intro _; simp [Lx.dig]
 | succ k ih =>
  intro hk
  have hi:=ih (by omega)
  rw [List.take_succ_eq_append_getElem (by omega)]
  have e:Lx.dig (l.take k ++ [l[k]]) = 10 * Lx.dig (l.take k) + ((l[k].toNat:Int) - 48):=by unfold Lx.dig; rw [List.foldl_append]; rfl
  have hb:=h l[k] (List.getElem_mem _)
  rw [e,Int.pow_succ]
  omega
set_option maxHeartbeats 2000000 in
theorem znr (s:ByteArray) (l:List UInt8) (hl:l = s.data.toList) (hs:l.length≤1000000) (hm:(45:UInt8) ∈ l) (w:World) (hM:Glb5 w) :
  Calls Tryz.prog 154 #[.string s] w fun e w'=>e = .returned (exV (Lx.number Dy.parse l))∧Below w.heap.size w w':=by
 have hsz:s.size = l.length:=by rw [hl]; exact zbb s
 have CT:=hdq fun W=>zck s 45 W
 rw [← hl] at CT
 have hse:s = ⟨l.toArray⟩:=by rw [hl]
 have PD:=hdq fun W hW=>znn s W hW
 rw [← hl] at PD
 unfold Lx.number
 rw [if_pos hm]
 rw [decide_eq_true hm] at CT
 have HM:=hdq hM
 rcases hp:Dy.parse l with _ | d
 ·rw [hp] at PD
  clear hm hl hsz hp hse hM
  show Calls _ _ _ _ fun e w'=>e = .returned (.tuple #[.agg #[.int .i64 0,.string ⟨#[]⟩,.int .i64 0,.int .i32 0,.int .i64 0],.int .i64 0,.int .i64 13])∧_
  go_enter Tryz.func154,Tryz.ntmps154
  go_wp2_with (first | (refine zal rfl rfl 159 rfl _ zaw ?_; intro g w1 hg R1 B1))
  refine (CT.out _).mono ?_
  rintro _ w2 ⟨rfl,rfl⟩
  go_wp2_with fail
  refine (PD.out _ (HM.out.below B1)).mono ?_
  unfold ofV
  rintro _ w3 ⟨rfl,hb2⟩
  have HB:=hdq (zab B1 hb2)
  have R3:=R1.below hb2
  clear hb2 R1 B1
  go_wp2_with (first | (refine zad rfl 159 _ _ rfl g (tk Lx.tk0).toArray rfl rfl R3 (zav _) rfl (zbi _) rfl ?_; intro w9 RZ S9))
  have d0:w9.cell? ⟨g,0,none⟩ = some (.int .i64 0):=RZ.cell 0
  have d1:w9.cell? ⟨g,1,none⟩ = some (.string ⟨#[]⟩):=RZ.cell 1
  have d2:w9.cell? ⟨g,2,none⟩ = some (.int .i64 0):=RZ.cell 2
  have d3:w9.cell? ⟨g,3,none⟩ = some (.int .i32 0):=RZ.cell 3
  have d4:w9.cell? ⟨g,4,none⟩ = some (.int .i64 0):=RZ.cell 4
  exact bodyPost_ret (v:=.tuple #[.agg #[.int .i64 0,.string ⟨#[]⟩,.int .i64 0,.int .i32 0,.int .i64 0],.int .i64 0,.int .i64 13]) (by simp [results,Tryz.results154,go_sem,d0,d1,d2,d3,d4]) rfl ⟨rfl,S9.below HB.out hg⟩
 ·rw [hp] at PD
  have hsi:((s.size:Nat):Int) = (l.length:Int):=by omega
  have HSI:=hdq hsi
  clear hm hl hsz hp hM hsi
  show Calls _ _ _ _ fun e w'=>e = .returned (.tuple #[.agg #[.int .i64 3,.string ⟨l.toArray⟩,.int .i64 0,.int .i32 d,.int .i64 0],.int .i64 (l.length:Int),.int .i64 0])∧_
  rw [← HSI.out,← hse]
  have hst:(tk ⟨3,l,0,d,0⟩).toArray = #[.int .i64 3,.string s,.int .i64 0,.int .i32 d,.int .i64 0]:=by rw [hse]; rfl
  have ST:=hdq hst
  clear hse hst
  go_enter Tryz.func154,Tryz.ntmps154
  go_wp2_with (first | (refine zal rfl rfl 159 rfl _ zaw ?_; intro g w1 hg R1 B1))
  refine (CT.out _).mono ?_
  rintro _ w2 ⟨rfl,rfl⟩
  go_wp2_with fail
  refine (PD.out _ (HM.out.below B1)).mono ?_
  unfold ofV
  rintro _ w3 ⟨rfl,hb2⟩
  have HB:=hdq (zab B1 hb2)
  have R3:=R1.below hb2
  clear hb2 R1 B1
  go_wp2_with (first | (refine zad rfl 159 _ _ rfl g (tk ⟨3,l,0,d,0⟩).toArray rfl (congrArg Value.agg ST.out.symm) R3 (zav _) rfl (zbi _) rfl ?_; intro w9 RZ S9))
  rw [ST.out] at RZ
  have d0:w9.cell? ⟨g,0,none⟩ = some (.int .i64 3):=RZ.cell 0
  have d1:w9.cell? ⟨g,1,none⟩ = some (.string s):=RZ.cell 1
  have d2:w9.cell? ⟨g,2,none⟩ = some (.int .i64 0):=RZ.cell 2
  have d3:w9.cell? ⟨g,3,none⟩ = some (.int .i32 d):=RZ.cell 3
  have d4:w9.cell? ⟨g,4,none⟩ = some (.int .i64 0):=RZ.cell 4
  exact bodyPost_ret (v:=.tuple #[.agg #[.int .i64 3,.string s,.int .i64 0,.int .i32 d,.int .i64 0],.int .i64 (s.size:Int),.int .i64 0]) (by simp [results,Tryz.results154,go_sem,d0,d1,d2,d3,d4]) rfl ⟨rfl,S9.below HB.out hg⟩
set_option maxHeartbeats 2000000 in
theorem znq (s:ByteArray) (l:List UInt8) (hl:l = s.data.toList) (h0:0 < l.length) (hm:(45:UInt8) ∉ l) (hb:7 < l.length∨(1 < l.length∧l.getD 0 0 = 48)) (w:World) :
  Calls Tryz.prog 154 #[.string s] w fun e w'=>e = .returned (exV (Lx.number Dy.parse l))∧Below w.heap.size w w':=by
 have hsz:s.size = l.length:=by rw [hl]; exact zbb s
 have hg:∀ i (h:i < s.size),(s[i]'h).toNat = (l.getD i 0).toNat:=fun i h=>by rw [hl,zbt]
 have CT:=hdq fun W=>zck s 45 W
 rw [← hl,decide_eq_false hm] at CT
 unfold Lx.number
 rw [if_neg hm]
 rw [if_pos hb]
 by_cases h7:7 < l.length
 ·have q7:(7:Int) < (s.size:Int):=by omega
  clear hl h0 hm hb hsz hg h7
  show Calls _ _ _ _ fun e w'=>e = .returned (.tuple #[.agg #[.int .i64 0,.string ⟨#[]⟩,.int .i64 0,.int .i32 0,.int .i64 0],.int .i64 0,.int .i64 5])∧_
  go_enter Tryz.func154,Tryz.ntmps154
  go_wp2_with (first | (refine zal rfl rfl 159 rfl _ zaw ?_; intro g w1 hg R1 B1))
  have HB:=hdq B1
  clear B1
  refine (CT.out _).mono ?_
  rintro _ w2 ⟨rfl,rfl⟩
  go_wp2_with (first | (refine zad rfl 159 _ _ rfl g (tk Lx.tk0).toArray rfl rfl R1 (zav _) rfl (zbi _) rfl ?_; intro w9 RZ S9))
  have d0:w9.cell? ⟨g,0,none⟩ = some (.int .i64 0):=RZ.cell 0
  have d1:w9.cell? ⟨g,1,none⟩ = some (.string ⟨#[]⟩):=RZ.cell 1
  have d2:w9.cell? ⟨g,2,none⟩ = some (.int .i64 0):=RZ.cell 2
  have d3:w9.cell? ⟨g,3,none⟩ = some (.int .i32 0):=RZ.cell 3
  have d4:w9.cell? ⟨g,4,none⟩ = some (.int .i64 0):=RZ.cell 4
  exact bodyPost_ret (v:=.tuple #[.agg #[.int .i64 0,.string ⟨#[]⟩,.int .i64 0,.int .i32 0,.int .i64 0],.int .i64 0,.int .i64 5]) (by simp [results,Tryz.results154,go_sem,d0,d1,d2,d3,d4]) rfl ⟨rfl,S9.below HB.out hg⟩
 ·obtain ⟨h1,h48⟩:1 < l.length∧l.getD 0 0 = 48:=by rcases hb with h | h; exact absurd h h7; exact h
  have q7:¬ (7:Int) < (s.size:Int):=by omega
  have q1:(1:Int) < (s.size:Int):=by omega
  have p0:(0:Int) < (s.size:Int):=by omega
  have p1:0 < s.size:=by omega
  have g0:∀ h:0 < s.size,(s[0]'h).toNat = 48:=fun h=>by rw [hg 0 h,h48]; rfl
  clear hl h0 hm hb hsz hg h7 h1 h48
  show Calls _ _ _ _ fun e w'=>e = .returned (.tuple #[.agg #[.int .i64 0,.string ⟨#[]⟩,.int .i64 0,.int .i32 0,.int .i64 0],.int .i64 0,.int .i64 5])∧_
  go_enter Tryz.func154,Tryz.ntmps154
  go_wp2_with (first | (refine zal rfl rfl 159 rfl _ zaw ?_; intro g w1 hg R1 B1))
  have HB:=hdq B1
  clear B1
  refine (CT.out _).mono ?_
  rintro _ w2 ⟨rfl,rfl⟩
  go_wp2_with (first | (refine zad rfl 159 _ _ rfl g (tk Lx.tk0).toArray rfl rfl R1 (zav _) rfl (zbi _) rfl ?_; intro w9 RZ S9))
  have d0:w9.cell? ⟨g,0,none⟩ = some (.int .i64 0):=RZ.cell 0
  have d1:w9.cell? ⟨g,1,none⟩ = some (.string ⟨#[]⟩):=RZ.cell 1
  have d2:w9.cell? ⟨g,2,none⟩ = some (.int .i64 0):=RZ.cell 2
  have d3:w9.cell? ⟨g,3,none⟩ = some (.int .i32 0):=RZ.cell 3
  have d4:w9.cell? ⟨g,4,none⟩ = some (.int .i64 0):=RZ.cell 4
  exact bodyPost_ret (v:=.tuple #[.agg #[.int .i64 0,.string ⟨#[]⟩,.int .i64 0,.int .i32 0,.int .i64 0],.int .i64 0,.int .i64 5]) (by simp [results,Tryz.results154,go_sem,d0,d1,d2,d3,d4]) rfl ⟨rfl,S9.below HB.out hg⟩
set_option maxHeartbeats 4000000 in
set_option maxRecDepth 100000 in
set_option maxRecDepth 100000 in
theorem znp (s:ByteArray) (l:List UInt8) (hl:l = s.data.toList) (h0:0 < l.length) (hm:(45:UInt8) ∉ l) (hd:∀ b ∈ l,Lx.dgt b = true) (hb:¬ (7 < l.length∨(1 < l.length∧l.getD 0 0 = 48))) (w:World) :
  Calls Tryz.prog 154 #[.string s] w fun e w'=>e = .returned (exV (Lx.number Dy.parse l))∧Below w.heap.size w w':=by
 have hsz:s.size = l.length:=by rw [hl]; exact zbb s
 have hg:∀ i (h:i < s.size),(s[i]'h).toNat = (l.getD i 0).toNat:=fun i h=>by rw [hl,zbt]
 have CT:=hdq fun W=>zck s 45 W
 rw [← hl,decide_eq_false hm] at CT
 unfold Lx.number
 rw [if_neg hm]
 rw [if_neg hb]
 have hse:s = ⟨l.toArray⟩:=by rw [hl]
 have hdd:∀ b ∈ l,48≤b.toNat∧b.toNat≤57:=fun b hx=>by
  have h:=hd b hx
  have hne:b.toNat ≠ 45:=fun e=>hm (by rwa [show b = 45 from UInt8.toNat.inj e] at hx)
  simp [Lx.dgt,Lx.inR] at h
  omega
 have h7:l.length≤7:=by omega
 have q7:¬ (7:Int) < (s.size:Int):=by omega
 have p0:(0:Int) < (s.size:Int):=by omega
 have p1:0 < s.size:=by omega
 have g0:∀ h:0 < s.size,(s[0]'h).toNat = (l.getD 0 0).toNat:=fun h=>hg 0 h
 have hq:∀ P:Prop,(((l.getD 0 0).toNat:Int) == 48) = false∨((((l.getD 0 0).toNat:Int) == 48) = true∧¬ (1:Int) < (s.size:Int)):=fun _=>by
  by_cases c:(l.getD 0 0).toNat = 48
  ·right
   have:l.getD 0 0 = 48:=UInt8.toNat.inj c
   exact ⟨by rw [c]; rfl,fun h1=>hb (.inr ⟨by omega,this⟩)⟩
  ·left
   exact beq_eq_false_iff_ne.2 (by omega)
 have hq:=hq True
 generalize (l.getD 0 0).toNat = b0 at *
 have HS:=hdq (And.intro hsz (And.intro h7 hse))
 have HD:=hdq hdd
 have HG:=hdq hg
 have HL:=hdq hl
 clear hl h0 hm hb hsz hg hd h7 hse hdd
 have hcv:=fun w=>Lib.run_convert_string_bytes (P:=Tryz.prog) w 9 25 5 s Tryz.underlying9 Tryz.underlying25 Tryz.underlying5
 rcases hq with hq | ⟨hq,q1⟩
 all_goals
  go_enter Tryz.func154,Tryz.ntmps154
  go_wp2_with (first | (refine zal rfl rfl 159 rfl _ zaw ?_; intro g w1 hg R1 B1))
  refine (CT.out _).mono ?_
  rintro _ w2 ⟨rfl,rfl⟩
  go_wp2_with fail
  have hcell:∀ j,j < s.size→(Lib.bytesWorld w2 5 s).cell? ⟨w2.heap.size,j,none⟩ = some (.int .u8 ((s.data.toList.getD j 0).toNat:Int)):=fun j hj=>Lib.bytesWorld_cell w2 _ s j hj
  rw [← HL.out] at hcell
  have hB3:=Lib.bytesWorld_below w2 5 s
  have R3:=hdq (R1.below hB3)
  have HB:=hdq (zab B1 hB3)
  generalize Lib.bytesWorld w2 5 s = w3 at *
  generalize w2.heap.size = gb at *
  generalize grownCap w2 s.size 0 5 = cap at *
  have HC:=hdq hcell
  clear hcell hB3 B1 R1 hcv hq
  go_loopw [7,42] (fun nv iv wr=>∃ k:Nat,k≤l.length∧iv = .int .i64 (k:Int)∧nv = .int .i64 (Lx.dig (l.take k))∧wr = w3) (fun _ iv _=>l.length - (intOf iv).toNat)
  case atStart=>exact ⟨0,by omega,rfl,rfl,rfl⟩
  case round =>
   obtain ⟨k,hk,rfl,rfl,rfl⟩:=hrel
   by_cases hlt:k < l.length
   ·have hc:=HC.out k (by rw [HS.out.1]; exact hlt)
    have i1:(k:Int) < (s.size:Int):=by have:=HS.out.1; omega
    have i0:(0:Int)≤(k:Int):=by omega
    have hb:=dig_bd l HD.out k hk
    have hx:=HD.out (l.getD k 0) (zay hlt)
    have hst:Lx.dig (l.take (k + 1)) = 10 * Lx.dig (l.take k) + (((l.getD k 0).toNat:Int) - 48):=by
     rw [List.take_succ_eq_append_getElem hlt]
     have e:∀ b,Lx.dig (l.take k ++ [b]) = 10 * Lx.dig (l.take k) + ((b.toNat:Int) - 48):=fun b=>by unfold Lx.dig; rw [List.foldl_append]; rfl
     rw [e,List.getD_eq_getElem?_getD,List.getElem?_eq_getElem hlt]
     rfl
    have hp:Lx.dig (l.take k) < 10000000:=Int.lt_of_lt_of_le hb.2 (by
     have h7:=HS.out.2.1
     have:(10:Int) ^ k≤10 ^ 7:=by exact_mod_cast Nat.pow_le_pow_right (by omega) (by omega)
     omega)
    have HST:=hdq hst
    generalize Lx.dig (l.take k) = n at *
    generalize (l.getD k 0).toNat = b at *
    have e1:IntKind.u8.wrap ((b:Int) - 48) = (b:Int) - 48:=by rw [IntKind.wrap_u8]; omega
    have e2:IntKind.i64.wrap (10 * n) = 10 * n:=by rw [IntKind.wrap_i64]; omega
    have e3:IntKind.i64.wrap (10 * n + ((b:Int) - 48)) = 10 * n + ((b:Int) - 48):=by rw [IntKind.wrap_i64]; omega
    have e4:IntKind.i64.wrap ((k:Int) + 1) = (k:Int) + 1:=by rw [IntKind.wrap_i64]; have:=HS.out.2.1; omega
    have e5:IntKind.i64.wrap ((b:Int) - 48) = (b:Int) - 48:=by rw [IntKind.wrap_i64]; omega
    have HI:=hdq hlt
    clear hb hx hp hst hlt hk
    go_wp2_with fail
    refine ⟨⟨k + 1,HI.out,by simp,by rw [HST.out],by first | rfl | trivial⟩,by have:=HI.out; simp [intOf]; omega⟩
   ·obtain rfl:k = l.length:=by omega
    have i1:¬ (l.length:Int) < (s.size:Int):=by have:=HS.out.1; omega
    rw [List.take_length]
    have hst:(tk ⟨2,l,Lx.dig l,0,0⟩).toArray = #[.int .i64 2,.string s,.int .i64 (Lx.dig l),.int .i32 0,.int .i64 0]:=by rw [HS.out.2.2]; rfl
    have ST:=hdq hst
    have HPO:=hdq (show Ending.returned (.tuple #[.agg #[.int .i64 2,.string s,.int .i64 (Lx.dig l),.int .i32 0,.int .i64 0],.int .i64 (s.size:Int),.int .i64 0]) = .returned (exV (.ok (⟨2,l,Lx.dig l,0,0⟩,l.length))) by rw [HS.out.1]; show _ = Ending.returned (.tuple #[.agg (tk ⟨2,l,Lx.dig l,0,0⟩).toArray,.int .i64 (l.length:Int),.int .i64 0]); rw [hst])
    clear hst hlt hk
    go_wp2_with (first | (refine zad rfl 159 _ _ rfl g (tk ⟨2,l,Lx.dig l,0,0⟩).toArray rfl (congrArg Value.agg ST.out.symm) R3.out (zav _) rfl (zbi _) rfl ?_; intro w9 RZ S9))
    rw [ST.out] at RZ
    have d0:w9.cell? ⟨g,0,none⟩ = some (.int .i64 2):=RZ.cell 0
    have d1:w9.cell? ⟨g,1,none⟩ = some (.string s):=RZ.cell 1
    have d2:w9.cell? ⟨g,2,none⟩ = some (.int .i64 (Lx.dig l)):=RZ.cell 2
    have d3:w9.cell? ⟨g,3,none⟩ = some (.int .i32 0):=RZ.cell 3
    have d4:w9.cell? ⟨g,4,none⟩ = some (.int .i64 0):=RZ.cell 4
    exact bodyPost_ret (v:=.tuple #[.agg #[.int .i64 2,.string s,.int .i64 (Lx.dig l),.int .i32 0,.int .i64 0],.int .i64 (s.size:Int),.int .i64 0]) (by simp [results,Tryz.results154,go_sem,d0,d1,d2,d3,d4]) rfl ⟨HPO.out,S9.below HB.out hg⟩
theorem zns (s:ByteArray) (l:List UInt8) (hl:l = s.data.toList) (h0:0 < l.length) (hs:l.length≤1000000) (hd:∀ b ∈ l,Lx.dgt b = true) (w:World) (hM:Glb5 w) :
  Calls Tryz.prog 154 #[.string s] w fun e w'=>e = .returned (exV (Lx.number Dy.parse l))∧Below w.heap.size w w':=by
 by_cases hm:(45:UInt8) ∈ l
 ·exact znr s l hl hs hm w hM
 ·by_cases hb:7 < l.length∨(1 < l.length∧l.getD 0 0 = 48)
  ·exact znq s l hl h0 hm hb w
  ·exact znp s l hl h0 hm hd hb w
theorem zlm (s:ByteArray) (l:List UInt8) (hl:l = s.data.toList) (n:Nat):s.extract 0 n = ⟨(l.take n).toArray⟩:=by rw [zpl,← hl]; simp
theorem zrg (b:UInt8):Lx.low b = true ↔ 97≤b.toNat∧b.toNat≤122:=by
 simp [Lx.low,Lx.inR]
 omega
set_option maxHeartbeats 2000000 in
theorem ztl (s:ByteArray) (l:List UInt8) (hl:l = s.data.toList) (h0:0 < l.length) (hs:l.length≤1000000) (hc:Lx.low (l.getD 0 0) = true) (w:World) (hM:Glb5 w) :
  Calls Tryz.prog 109 #[.string s] w fun e w'=>e = .returned (exV (Lx.one Dy.parse l))∧Below w.heap.size w w':=by
 have hsz:s.size = l.length:=by rw [hl]; exact zbb s
 have g0:∀ h:0 < s.size,(s[0]'h).toNat = (l.getD 0 0).toNat:=fun h=>by rw [hl,zbt]
 have p0:(0:Int) < (s.size:Int):=by omega
 have p1:0 < s.size:=by omega
 have hr:=zpq s 97 122 97 (by omega)
 rw [← hl] at hr
 have HR:=hdq hr
 have hlo:=(zrg _).1 hc
 have q1:(97:Int)≤((l.getD 0 0).toNat:Int):=by omega
 have q2:((l.getD 0 0).toNat:Int)≤122:=by omega
 unfold Lx.one
 rw [if_pos hc]
 have hn:=Lx.run_le Lx.low l
 have hrl:Lx.run (Lx.inR 97 122 97) l = Lx.run Lx.low l:=rfl
 rw [hrl] at HR
 generalize Lx.run Lx.low l = n at *
 have n0:(0:Int)≤(n:Int):=by omega
 have n1:(n:Int)≤(s.size:Int):=by omega
 have hst:(tk ⟨1,l.take n,0,0,0⟩).toArray = #[.int .i64 1,.string (s.extract 0 n),.int .i64 0,.int .i32 0,.int .i64 0]:=by rw [zlm s l hl n]; rfl
 have ST:=hdq hst
 have HPO:=hdq (show Ending.returned (.tuple #[.agg #[.int .i64 1,.string (s.extract 0 n),.int .i64 0,.int .i32 0,.int .i64 0],.int .i64 (n:Int),.int .i64 0]) = .returned (exV (.ok (⟨1,l.take n,0,0,0⟩,n))) by show _ = Ending.returned (.tuple #[.agg (tk ⟨1,l.take n,0,0,0⟩).toArray,.int .i64 (n:Int),.int .i64 0]); rw [hst])
 generalize (l.getD 0 0).toNat = b at *
 clear hl h0 hs hc hsz hlo hn hrl hst hM hr
 go_enter Tryz.func109,Tryz.ntmps109
 go_wp2_with (first | (refine zal rfl rfl 159 rfl _ zaw ?_; intro g w1 hg R1 B1))
 have HB:=hdq B1
 clear B1
 refine (HR.out _).mono ?_
 rintro _ w2 ⟨rfl,rfl⟩
 go_wp2_with (first | (refine zad rfl 159 _ _ rfl g (tk ⟨1,l.take n,0,0,0⟩).toArray rfl (congrArg Value.agg ST.out.symm) R1 (zav _) rfl (zbi _) rfl ?_; intro w9 RZ S9))
 rw [ST.out] at RZ
 have d0:w9.cell? ⟨g,0,none⟩ = some (.int .i64 1):=RZ.cell 0
 have d1:w9.cell? ⟨g,1,none⟩ = some (.string (s.extract 0 n)):=RZ.cell 1
 have d2:w9.cell? ⟨g,2,none⟩ = some (.int .i64 0):=RZ.cell 2
 have d3:w9.cell? ⟨g,3,none⟩ = some (.int .i32 0):=RZ.cell 3
 have d4:w9.cell? ⟨g,4,none⟩ = some (.int .i64 0):=RZ.cell 4
 exact bodyPost_ret (v:=.tuple #[.agg #[.int .i64 1,.string (s.extract 0 n),.int .i64 0,.int .i32 0,.int .i64 0],.int .i64 (n:Int),.int .i64 0]) (by simp [results,Tryz.results109,go_sem,d0,d1,d2,d3,d4]) rfl ⟨HPO.out,S9.below HB.out hg⟩
set_option maxHeartbeats 2000000 in
theorem zno (s:ByteArray) (l:List UInt8) (hl:l = s.data.toList) (h0:0 < l.length) (hs:l.length≤1000000) (hc:¬ Lx.low (l.getD 0 0) = true) (hd:48≤(l.getD 0 0).toNat∧(l.getD 0 0).toNat≤57) (w:World) (hM:Glb5 w) :
  Calls Tryz.prog 109 #[.string s] w fun e w'=>e = .returned (exV (Lx.one Dy.parse l))∧Below w.heap.size w w':=by
 have hsz:s.size = l.length:=by rw [hl]; exact zbb s
 have g0:∀ h:0 < s.size,(s[0]'h).toNat = (l.getD 0 0).toNat:=fun h=>by rw [hl,zbt]
 have p0:(0:Int) < (s.size:Int):=by omega
 have p1:0 < s.size:=by omega
 have hr:=zpq s 48 57 45 (by omega)
 rw [← hl] at hr
 have HR:=hdq hr
 have q1:¬ (97:Int)≤((l.getD 0 0).toNat:Int):=by omega
 have q2:(48:Int)≤((l.getD 0 0).toNat:Int):=by omega
 have q3:((l.getD 0 0).toNat:Int)≤57:=by omega
 unfold Lx.one
 dsimp only
 rw [if_neg hc,if_pos hd]
 have hn:=Lx.run_le Lx.dgt l
 have hrl:Lx.run (Lx.inR 48 57 45) l = Lx.run Lx.dgt l:=rfl
 rw [hrl] at HR
 have hpos:0 < Lx.run Lx.dgt l:=by
  obtain ⟨c,r,rfl⟩:∃ c r,l = c :: r:=by rcases l with _ | ⟨c,r⟩; simp at h0; exact ⟨c,r,rfl⟩
  rw [Lx.run_cons,if_pos (by simp [Lx.dgt,Lx.inR] at hd ⊢; left; exact hd)]
  omega
 have hall:=Lx.mem_take_run Lx.dgt l
 generalize Lx.run Lx.dgt l = n at *
 have n0:(0:Int)≤(n:Int):=by omega
 have n1:(n:Int)≤(s.size:Int):=by omega
 have hnum:=fun W hW=>zns (s.extract 0 n) (l.take n) (by rw [Lib.extract_data,← hl]; simp) (by rw [List.length_take]; omega) (by rw [List.length_take]; omega) hall W hW
 have HN:=hdq hnum
 have HM:=hdq hM
 generalize (l.getD 0 0).toNat = b at *
 clear hl h0 hs hc hsz hn hrl hM hr hd hpos hall hnum
 rcases hx:Lx.number Dy.parse (l.take n) with e | ⟨t,m⟩
 ·rw [hx] at HN
  clear hx
  show Calls _ _ _ _ fun e' w'=>e' = .returned (.tuple #[.agg #[.int .i64 0,.string ⟨#[]⟩,.int .i64 0,.int .i32 0,.int .i64 0],.int .i64 0,.int .i64 (e:Int)])∧_
  go_enter Tryz.func109,Tryz.ntmps109
  go_wp2_with (first | (refine zal rfl rfl 159 rfl _ zaw ?_; intro g w1 hg R1 B1))
  refine (HR.out _).mono ?_
  rintro _ w2 ⟨rfl,rfl⟩
  go_wp2_with fail
  refine (HN.out _ (HM.out.below B1)).mono ?_
  rintro _ w3 ⟨rfl,hb2⟩
  have HB:=hdq (zab B1 hb2)
  have R3:=R1.below hb2
  clear hb2 R1 B1
  unfold exV
  go_wp2_with (first | (refine zad rfl 159 _ _ rfl g (tk Lx.tk0).toArray rfl rfl R3 (zav _) rfl (zbi _) rfl ?_; intro w9 RZ S9))
  have d0:w9.cell? ⟨g,0,none⟩ = some (.int .i64 0):=RZ.cell 0
  have d1:w9.cell? ⟨g,1,none⟩ = some (.string ⟨#[]⟩):=RZ.cell 1
  have d2:w9.cell? ⟨g,2,none⟩ = some (.int .i64 0):=RZ.cell 2
  have d3:w9.cell? ⟨g,3,none⟩ = some (.int .i32 0):=RZ.cell 3
  have d4:w9.cell? ⟨g,4,none⟩ = some (.int .i64 0):=RZ.cell 4
  exact bodyPost_ret (v:=.tuple #[.agg #[.int .i64 0,.string ⟨#[]⟩,.int .i64 0,.int .i32 0,.int .i64 0],.int .i64 0,.int .i64 (e:Int)]) (by simp [results,Tryz.results109,go_sem,d0,d1,d2,d3,d4]) rfl ⟨rfl,S9.below HB.out hg⟩
 ·rw [hx] at HN
  have HT:=hdq (show t.pos = 0 from (Lx.number_len _ _ _ _ hx).2.1)
  clear hx
  show Calls _ _ _ _ fun e' w'=>e' = .returned (.tuple #[.agg (tk t).toArray,.int .i64 (m:Int),.int .i64 0])∧_
  unfold exV at HN
  go_enter Tryz.func109,Tryz.ntmps109
  go_wp2_with (first | (refine zal rfl rfl 159 rfl _ zaw ?_; intro g w1 hg R1 B1))
  refine (HR.out _).mono ?_
  rintro _ w2 ⟨rfl,rfl⟩
  go_wp2_with fail
  refine (HN.out _ (HM.out.below B1)).mono ?_
  rintro _ w3 ⟨rfl,hb2⟩
  have HB:=hdq (zab B1 hb2)
  have R3:=R1.below hb2
  clear hb2 R1 B1
  dsimp only
  go_wp2_with (first | (refine zad rfl 159 _ _ rfl g (tk t).toArray rfl rfl R3 (zav _) rfl (zbi _) rfl ?_; intro w9 RZ S9))
  have d0:w9.cell? ⟨g,0,none⟩ = some (.int .i64 (t.kind:Int)):=RZ.cell 0
  have d1:w9.cell? ⟨g,1,none⟩ = some (.string ⟨t.text.toArray⟩):=RZ.cell 1
  have d2:w9.cell? ⟨g,2,none⟩ = some (.int .i64 t.num):=RZ.cell 2
  have d3:w9.cell? ⟨g,3,none⟩ = some (.int .i32 t.day):=RZ.cell 3
  have d4:w9.cell? ⟨g,4,none⟩ = some (.int .i64 (t.pos:Int)):=RZ.cell 4
  exact bodyPost_ret (v:=.tuple #[.agg (tk t).toArray,.int .i64 (m:Int),.int .i64 0]) (by simp [results,Tryz.results109,go_sem,tk,d0,d1,d2,d3,d4]) rfl ⟨rfl,S9.below HB.out hg⟩
namespace Lx
theorem quo_none (r:List UInt8) (h:Lib.indexByte r 34 = -1):¬ (run quo r < r.length∧r.getD (run quo r) 0 = 34):=by
 rintro ⟨h1,h2⟩
 have:=Lib.indexByte_none h (run quo r)
 rw [List.getD_eq_getElem?_getD,List.getElem?_eq_getElem h1] at h2
 rw [List.getElem?_eq_getElem h1] at this
 exact this (congrArg some h2)
theorem quo_nl (r:List UInt8) (k:Nat) (h:Lib.indexByte r 34 = k) (hm:(10:UInt8) ∈ r.take k):¬ (run quo r < r.length∧r.getD (run quo r) 0 = 34):=by
 rintro ⟨h1,h2⟩
 obtain ⟨hk,hb⟩:=Lib.indexByte_some h
 have hle:k≤run quo r:=by
  by_cases c:k≤run quo r
  ·exact c
  ·have:=hb (run quo r) (by omega)
   rw [List.getElem?_eq_getElem h1] at this
   rw [List.getD_eq_getElem?_getD,List.getElem?_eq_getElem h1] at h2
   exact absurd (congrArg some h2) this
 obtain ⟨j,hj,he⟩:=List.getElem_of_mem hm
 rw [List.length_take] at hj
 have hq:=zij quo r j (by omega)
 rw [List.getElem_take] at he
 rw [List.getD_eq_getElem?_getD,List.getElem?_eq_getElem (by omega)] at hq
 simp only [Option.getD_some,he] at hq
 exact absurd hq (by decide)
theorem quo_ok (r:List UInt8) (k:Nat) (h:Lib.indexByte r 34 = k) (hm:(10:UInt8) ∉ r.take k):run quo r = k∧k < r.length∧r.getD k 0 = 34:=by
 obtain ⟨hk,hb⟩:=Lib.indexByte_some h
 have hlt:k < r.length:=by
  by_cases c:k < r.length
  ·exact c
  ·rw [List.getElem?_eq_none (by omega)] at hk; cases hk
 have hg:r.getD k 0 = 34:=by rw [List.getD_eq_getElem?_getD,hk]; rfl
 refine ⟨run_at quo r k (by omega) (fun j hj=>?_) (fun _=>by rw [hg]; rfl),hlt,hg⟩
 have h1:=hb j hj
 rw [List.getElem?_eq_getElem (by omega)] at h1
 rw [List.getD_eq_getElem?_getD,List.getElem?_eq_getElem (by omega)]
 have h2:r[j] ≠ 10:=fun e=>hm (by
  rw [← e]
  exact List.mem_of_getElem? (i:=j) (by rw [List.getElem?_take,if_pos hj,List.getElem?_eq_getElem (by omega)]))
 have h3:r[j] ≠ 34:=fun e=>h1 (congrArg some e)
 simp [quo,h2,h3]
end Lx
set_option maxHeartbeats 2000000 in
theorem zqi (s:ByteArray) (l:List UInt8) (hl:l = s.data.toList) (h0:0 < l.length) (hs:l.length≤1000000) (hc:l.getD 0 0 = 34) (w:World) :
  Calls Tryz.prog 109 #[.string s] w fun e w'=>e = .returned (exV (Lx.one Dy.parse l))∧Below w.heap.size w w':=by
 have hsz:s.size = l.length:=by rw [hl]; exact zbb s
 have p0:(0:Int) < (s.size:Int):=by omega
 have p1:0 < s.size:=by omega
 have g0:∀ h:0 < s.size,(s[0]'h).toNat = 34:=fun h=>by rw [zbt,← hl,hc]; rfl
 have hi:=idx_any (s.extract 1 s.size) 34
 rw [Lib.extract_data,← hl,List.take_of_length_le (by rw [List.length_drop]; omega)] at hi
 have p2:(1:Int)≤(s.size:Int):=by omega
 unfold Lx.one
 dsimp only
 rw [hc,if_neg (by decide),if_neg (by decide),if_pos (by rfl)]
 obtain ⟨r,hr⟩:∃ r,r = l.drop 1:=⟨_,rfl⟩
 rw [← hr] at hi ⊢
 have hrl:r.length + 1 = s.size:=by rw [hr,List.length_drop]; omega
 rcases Int.lt_or_le (Lib.indexByte r 34) 0 with hneg | hpos
 ·have e1:Lib.indexByte r 34 = -1:=by have:=Lib.indexByte_ge r 34; omega
  rw [if_neg (Lx.quo_none r e1)]
  rw [e1] at hi
  have HI:=hdq hi
  clear hl h0 hs hc hsz hr hneg e1 hi hrl
  show Calls _ _ _ _ fun e w'=>e = .returned (.tuple #[.agg #[.int .i64 0,.string ⟨#[]⟩,.int .i64 0,.int .i32 0,.int .i64 0],.int .i64 0,.int .i64 3])∧_
  go_enter Tryz.func109,Tryz.ntmps109
  go_wp2_with (first | (refine zal rfl rfl 159 rfl _ zaw ?_; intro g w1 hg R1 B1))
  have HB:=hdq B1
  clear B1
  refine (HI.out _).mono ?_
  rintro _ w2 ⟨rfl,rfl⟩
  go_wp2_with (first | (refine zad rfl 159 _ _ rfl g (tk Lx.tk0).toArray rfl rfl R1 (zav _) rfl (zbi _) rfl ?_; intro w9 RZ S9))
  have d0:w9.cell? ⟨g,0,none⟩ = some (.int .i64 0):=RZ.cell 0
  have d1:w9.cell? ⟨g,1,none⟩ = some (.string ⟨#[]⟩):=RZ.cell 1
  have d2:w9.cell? ⟨g,2,none⟩ = some (.int .i64 0):=RZ.cell 2
  have d3:w9.cell? ⟨g,3,none⟩ = some (.int .i32 0):=RZ.cell 3
  have d4:w9.cell? ⟨g,4,none⟩ = some (.int .i64 0):=RZ.cell 4
  exact bodyPost_ret (v:=.tuple #[.agg #[.int .i64 0,.string ⟨#[]⟩,.int .i64 0,.int .i32 0,.int .i64 0],.int .i64 0,.int .i64 3]) (by simp [results,Tryz.results109,go_sem,d0,d1,d2,d3,d4]) rfl ⟨rfl,S9.below HB.out hg⟩
 ·obtain ⟨k,hk⟩:∃ k:Nat,Lib.indexByte r 34 = k:=⟨(Lib.indexByte r 34).toNat,by omega⟩
  rw [hk] at hi
  have HI:=hdq hi
  have hct:=zck (s.extract 1 (k + 1)) 10
  rw [Lib.extract_data,← hl,← hr,Nat.add_sub_cancel] at hct
  have hkl:k < r.length:=by
   have:=(Lib.indexByte_some hk).1
   by_cases c:k < r.length
   ·exact c
   ·rw [List.getElem?_eq_none (by omega)] at this; cases this
  have e1:IntKind.i64.wrap ((k:Int) + 1) = (k:Int) + 1:=by rw [IntKind.wrap_i64]; omega
  have e2:IntKind.i64.wrap ((k:Int) + 2) = (k:Int) + 2:=by rw [IntKind.wrap_i64]; omega
  have t1:((k:Int) + 1).toNat = k + 1:=by omega
  have n0:(0:Int)≤(k:Int):=by omega
  have n1:(1:Int)≤(k:Int) + 1:=by omega
  have n2:(k:Int) + 1≤(s.size:Int):=by omega
  have n3:(0:Int)≤(k:Int) + 1:=by omega
  have n4:¬ (k:Int) < 0:=by omega
  have n5:k + 1≤s.size:=by omega
  by_cases hm:(10:UInt8) ∈ r.take k
  ·rw [if_neg (Lx.quo_nl r k hk hm)]
   rw [decide_eq_true hm] at hct
   have HCT:=hdq hct
   clear hl h0 hs hc hsz hr hpos hi hrl hk hct hkl hm
   show Calls _ _ _ _ fun e w'=>e = .returned (.tuple #[.agg #[.int .i64 0,.string ⟨#[]⟩,.int .i64 0,.int .i32 0,.int .i64 0],.int .i64 0,.int .i64 3])∧_
   go_enter Tryz.func109,Tryz.ntmps109
   go_wp2_with (first | (refine zal rfl rfl 159 rfl _ zaw ?_; intro g w1 hg R1 B1))
   have HB:=hdq B1
   clear B1
   refine (HI.out _).mono ?_
   rintro _ w2 ⟨rfl,rfl⟩
   go_wp2_with fail
   refine (HCT.out _).mono ?_
   rintro _ w3 ⟨rfl,rfl⟩
   go_wp2_with (first | (refine zad rfl 159 _ _ rfl g (tk Lx.tk0).toArray rfl rfl R1 (zav _) rfl (zbi _) rfl ?_; intro w9 RZ S9))
   have d0:w9.cell? ⟨g,0,none⟩ = some (.int .i64 0):=RZ.cell 0
   have d1:w9.cell? ⟨g,1,none⟩ = some (.string ⟨#[]⟩):=RZ.cell 1
   have d2:w9.cell? ⟨g,2,none⟩ = some (.int .i64 0):=RZ.cell 2
   have d3:w9.cell? ⟨g,3,none⟩ = some (.int .i32 0):=RZ.cell 3
   have d4:w9.cell? ⟨g,4,none⟩ = some (.int .i64 0):=RZ.cell 4
   exact bodyPost_ret (v:=.tuple #[.agg #[.int .i64 0,.string ⟨#[]⟩,.int .i64 0,.int .i32 0,.int .i64 0],.int .i64 0,.int .i64 3]) (by simp [results,Tryz.results109,go_sem,d0,d1,d2,d3,d4]) rfl ⟨rfl,S9.below HB.out hg⟩
  ·obtain ⟨q1,q2,q3⟩:=Lx.quo_ok r k hk hm
   rw [q1,if_pos ⟨q2,q3⟩]
   rw [decide_eq_false hm] at hct
   have HCT:=hdq hct
   have hst:(tk ⟨4,r.take k,0,0,0⟩).toArray = #[.int .i64 4,.string (s.extract 1 (k + 1)),.int .i64 0,.int .i32 0,.int .i64 0]:=by rw [zpl s 1 (k + 1),← hl,← hr,Nat.add_sub_cancel]; rfl
   have ST:=hdq hst
   have HPO:=hdq (show Ending.returned (.tuple #[.agg #[.int .i64 4,.string (s.extract 1 (k + 1)),.int .i64 0,.int .i32 0,.int .i64 0],.int .i64 ((k:Int) + 2),.int .i64 0]) = .returned (exV (.ok (⟨4,r.take k,0,0,0⟩,k + 2))) by show _ = Ending.returned (.tuple #[.agg (tk ⟨4,r.take k,0,0,0⟩).toArray,.int .i64 ((k + 2:Nat):Int),.int .i64 0]); rw [hst]; rfl)
   clear hl h0 hs hc hsz hr hpos hi hrl hk hct hkl hm q1 q2 q3 hst
   go_enter Tryz.func109,Tryz.ntmps109
   go_wp2_with (first | (refine zal rfl rfl 159 rfl _ zaw ?_; intro g w1 hg R1 B1))
   have HB:=hdq B1
   clear B1
   refine (HI.out _).mono ?_
   rintro _ w2 ⟨rfl,rfl⟩
   go_wp2_with fail
   refine (HCT.out _).mono ?_
   rintro _ w3 ⟨rfl,rfl⟩
   go_wp2_with (first | (refine zad rfl 159 _ _ rfl g (tk ⟨4,r.take k,0,0,0⟩).toArray rfl (congrArg Value.agg ST.out.symm) R1 (zav _) rfl (zbi _) rfl ?_; intro w9 RZ S9))
   rw [ST.out] at RZ
   have d0:w9.cell? ⟨g,0,none⟩ = some (.int .i64 4):=RZ.cell 0
   have d1:w9.cell? ⟨g,1,none⟩ = some (.string (s.extract 1 (k + 1))):=RZ.cell 1
   have d2:w9.cell? ⟨g,2,none⟩ = some (.int .i64 0):=RZ.cell 2
   have d3:w9.cell? ⟨g,3,none⟩ = some (.int .i32 0):=RZ.cell 3
   have d4:w9.cell? ⟨g,4,none⟩ = some (.int .i64 0):=RZ.cell 4
   exact bodyPost_ret (v:=.tuple #[.agg #[.int .i64 4,.string (s.extract 1 (k + 1)),.int .i64 0,.int .i32 0,.int .i64 0],.int .i64 ((k:Int) + 2),.int .i64 0]) (by simp [results,Tryz.results109,go_sem,d0,d1,d2,d3,d4]) rfl ⟨HPO.out,S9.below HB.out hg⟩
set_option maxHeartbeats 2000000 in
theorem ztm (s:ByteArray) (l:List UInt8) (hl:l = s.data.toList) (h0:0 < l.length) (c:UInt8) (hcc:c = 44∨c = 59) (hc:l.getD 0 0 = c) (w:World) :
  Calls Tryz.prog 109 #[.string s] w fun e w'=>e = .returned (exV (Lx.one Dy.parse l))∧Below w.heap.size w w':=by
 have hsz:s.size = l.length:=by rw [hl]; exact zbb s
 have p0:(0:Int) < (s.size:Int):=by omega
 have p1:0 < s.size:=by omega
 have p2:(1:Int)≤(s.size:Int):=by omega
 have p3:1≤s.size:=by omega
 have g0:∀ h:0 < s.size,(s[0]'h).toNat = c.toNat:=fun h=>by rw [zbt,← hl,hc]
 unfold Lx.one
 dsimp only
 rw [hc,if_neg (by rcases hcc with rfl | rfl <;> decide),if_neg (by rcases hcc with rfl | rfl <;> decide),if_neg (by rcases hcc with rfl | rfl <;> decide),if_pos hcc]
 have hst:(tk ⟨5,l.take 1,0,0,0⟩).toArray = #[.int .i64 5,.string (s.extract 0 1),.int .i64 0,.int .i32 0,.int .i64 0]:=by rw [zlm s l hl 1]; rfl
 have ST:=hdq hst
 have HPO:=hdq (show Ending.returned (.tuple #[.agg #[.int .i64 5,.string (s.extract 0 1),.int .i64 0,.int .i32 0,.int .i64 0],.int .i64 1,.int .i64 0]) = .returned (exV (.ok (⟨5,l.take 1,0,0,0⟩,1))) by show _ = Ending.returned (.tuple #[.agg (tk ⟨5,l.take 1,0,0,0⟩).toArray,.int .i64 1,.int .i64 0]); rw [hst])
 clear hl h0 hsz hst hc
 have hcn:c.toNat = 44∨c.toNat = 59:=by rcases hcc with rfl | rfl; exact .inl rfl; exact .inr rfl
 clear hcc
 generalize c.toNat = b at *
 rcases hcn with rfl | rfl
 all_goals
  go_enter Tryz.func109,Tryz.ntmps109
  go_wp2_with (first | (refine zal rfl rfl 159 rfl _ zaw ?_; intro g w1 hg R1 B1) | (refine zad rfl 159 _ _ rfl g (tk ⟨5,l.take 1,0,0,0⟩).toArray rfl (congrArg Value.agg ST.out.symm) R1 (zav _) rfl (zbi _) rfl ?_; intro w9 RZ S9))
  have HB:=hdq B1
  rw [ST.out] at RZ
  have d0:w9.cell? ⟨g,0,none⟩ = some (.int .i64 5):=RZ.cell 0
  have d1:w9.cell? ⟨g,1,none⟩ = some (.string (s.extract 0 1)):=RZ.cell 1
  have d2:w9.cell? ⟨g,2,none⟩ = some (.int .i64 0):=RZ.cell 2
  have d3:w9.cell? ⟨g,3,none⟩ = some (.int .i32 0):=RZ.cell 3
  have d4:w9.cell? ⟨g,4,none⟩ = some (.int .i64 0):=RZ.cell 4
  exact bodyPost_ret (v:=.tuple #[.agg #[.int .i64 5,.string (s.extract 0 1),.int .i64 0,.int .i32 0,.int .i64 0],.int .i64 1,.int .i64 0]) (by simp [results,Tryz.results109,go_sem,d0,d1,d2,d3,d4]) rfl ⟨HPO.out,S9.below HB.out hg⟩
set_option maxHeartbeats 2000000 in
theorem ztn (s:ByteArray) (l:List UInt8) (hl:l = s.data.toList) (h0:0 < l.length) (h1:¬ Lx.low (l.getD 0 0) = true) (h2:¬ (48≤(l.getD 0 0).toNat∧(l.getD 0 0).toNat≤57)) (h3:l.getD 0 0 ≠ 34) (h4:¬ (l.getD 0 0 = 44∨l.getD 0 0 = 59)) (w:World) :
  Calls Tryz.prog 109 #[.string s] w fun e w'=>e = .returned (exV (Lx.one Dy.parse l))∧Below w.heap.size w w':=by
 have hsz:s.size = l.length:=by rw [hl]; exact zbb s
 have p0:(0:Int) < (s.size:Int):=by omega
 have p1:0 < s.size:=by omega
 have g0:∀ h:0 < s.size,(s[0]'h).toNat = (l.getD 0 0).toNat:=fun h=>by rw [zbt,← hl]
 unfold Lx.one
 dsimp only
 rw [if_neg h1,if_neg h2,if_neg h3,if_neg h4]
 rw [zrg] at h1
 have k34:(((l.getD 0 0).toNat:Int) == 34) = false:=beq_eq_false_iff_ne.2 fun e=>h3 (UInt8.toNat.inj (by show _ = 34; omega))
 have k44:(((l.getD 0 0).toNat:Int) == 44) = false:=beq_eq_false_iff_ne.2 fun e=>h4 (.inl (UInt8.toNat.inj (by show _ = 44; omega)))
 have k59:(((l.getD 0 0).toNat:Int) == 59) = false:=beq_eq_false_iff_ne.2 fun e=>h4 (.inr (UInt8.toNat.inj (by show _ = 59; omega)))
 have hz:((97:Int)≤((l.getD 0 0).toNat:Int)∧¬ ((l.getD 0 0).toNat:Int)≤122∧(48:Int)≤((l.getD 0 0).toNat:Int)∧¬ ((l.getD 0 0).toNat:Int)≤57)∨(¬ (97:Int)≤((l.getD 0 0).toNat:Int)∧(48:Int)≤((l.getD 0 0).toNat:Int)∧¬ ((l.getD 0 0).toNat:Int)≤57)∨(¬ (97:Int)≤((l.getD 0 0).toNat:Int)∧¬ (48:Int)≤((l.getD 0 0).toNat:Int)):=by omega
 clear h1 h2 h3 h4 hsz hl h0
 generalize (l.getD 0 0).toNat = b at *
 rcases hz with ⟨z1,z2,z3,z4⟩ | ⟨z1,z2,z3⟩ | ⟨z1,z2⟩
 all_goals
  show Calls _ _ _ _ fun e w'=>e = .returned (.tuple #[.agg #[.int .i64 0,.string ⟨#[]⟩,.int .i64 0,.int .i32 0,.int .i64 0],.int .i64 0,.int .i64 1])∧_
  go_enter Tryz.func109,Tryz.ntmps109
  go_wp2_with (first | (refine zal rfl rfl 159 rfl _ zaw ?_; intro g w1 hg R1 B1) | (refine zad rfl 159 _ _ rfl g (tk Lx.tk0).toArray rfl rfl R1 (zav _) rfl (zbi _) rfl ?_; intro w9 RZ S9))
  have HB:=hdq B1
  have d0:w9.cell? ⟨g,0,none⟩ = some (.int .i64 0):=RZ.cell 0
  have d1:w9.cell? ⟨g,1,none⟩ = some (.string ⟨#[]⟩):=RZ.cell 1
  have d2:w9.cell? ⟨g,2,none⟩ = some (.int .i64 0):=RZ.cell 2
  have d3:w9.cell? ⟨g,3,none⟩ = some (.int .i32 0):=RZ.cell 3
  have d4:w9.cell? ⟨g,4,none⟩ = some (.int .i64 0):=RZ.cell 4
  exact bodyPost_ret (v:=.tuple #[.agg #[.int .i64 0,.string ⟨#[]⟩,.int .i64 0,.int .i32 0,.int .i64 0],.int .i64 0,.int .i64 1]) (by simp [results,Tryz.results109,go_sem,d0,d1,d2,d3,d4]) rfl ⟨rfl,S9.below HB.out hg⟩
theorem one_any (s:ByteArray) (l:List UInt8) (hl:l = s.data.toList) (h0:0 < l.length) (hs:l.length≤1000000) (w:World) (hM:Glb5 w) :
  Calls Tryz.prog 109 #[.string s] w fun e w'=>e = .returned (exV (Lx.one Dy.parse l))∧Below w.heap.size w w':=by
 by_cases c1:Lx.low (l.getD 0 0) = true
 ·exact ztl s l hl h0 hs c1 w hM
 ·by_cases c2:48≤(l.getD 0 0).toNat∧(l.getD 0 0).toNat≤57
  ·exact zno s l hl h0 hs c1 c2 w hM
  ·by_cases c3:l.getD 0 0 = 34
   ·exact zqi s l hl h0 hs c3 w
   ·by_cases c4:l.getD 0 0 = 44∨l.getD 0 0 = 59
    ·exact ztm s l hl h0 _ c4 rfl w
    ·exact ztn s l hl h0 c1 c2 c3 c4 w
end Go.Proofs.YtlpdfglbdijkoaaGreatDoor