/-
  Own texts, several in one (Awake2, Awake3, Awake4, Key).
-/
import Derived.Test.YtlpdfglbdijkoaaGreatDoorMrg7
import Derived.Test.YtlpdfglbdijkoaaGreatDoorMrg3
import Derived.Deep.QuietTactic
import Derived.BigQuiet
import Derived.Laws.Bits64b
namespace Go.Proofs.YtlpdfglbdijkoaaGreatDoor
open Go.RowKit
set_option linter.unusedVariables false
set_option linter.unusedSimpArgs false
theorem zpi:Mn.text (-5) = [45,48,46,48,53]:=by decide +kernel
theorem ztg:Mn.parse [45,48,46,48,53] = some (-5):=by rw [← zpi]; exact Mn.parse_text (-5) (by omega)
set_option maxHeartbeats 400000 in
theorem awake2 (w:World) (hG:Glb w) :
  Calls Tryz.prog 254 #[] w fun e w'=>e = .returned (.bool true)∧Below w.heap.size w w':=by
 have hp:=hdq (fun w hG=>zqe ⟨#[45,48,46,48,53]⟩ (by decide) w hG)
 rw [show ((⟨#[45,48,46,48,53]⟩:ByteArray).data.toList) = [45,48,46,48,53] from rfl,ztg] at hp
 have ht:=hdq (zlj (-5) (by unfold Wd.I64; omega))
 rw [zpi] at ht
 go_enter Tryz.func254,Tryz.ntmps254
 go_wp2_with fail
 refine (hp.out _ hG).mono ?_
 rintro _ w1 ⟨rfl,hb1⟩
 unfold Mn.end_
 go_wp2_with fail
 refine (ht.out _ (hG.below hb1)).mono ?_
 rintro _ w2 ⟨rfl,hb2⟩
 have hB2:=zab hb1 hb2
 go_wp2_with fail
 refine (awake1 _).mono ?_
 rintro _ w3 ⟨rfl,hb3⟩
 go_wp2
 go_ret
 exact ⟨rfl,zab hB2 hb3⟩
theorem zoz (a:Int) (ws:List Nat) (i:Nat):(Sh.allot a ws).getD i 0 = if a < 0 then -(((Sh.sizes a.natAbs ws).getD i 0:Nat):Int) else (((Sh.sizes a.natAbs ws).getD i 0:Nat):Int):=by
 unfold Sh.allot
 rw [List.getD_eq_getElem?_getD,List.getElem?_map,List.getD_eq_getElem?_getD]
 cases (Sh.sizes a.natAbs ws)[i]? <;> simp
theorem ztx {l:List Int} {z:Int} (h:z ∈ l):∃ i,i < l.length∧l.getD i 0 = z:=by
 obtain ⟨i,hi,e⟩:=List.mem_iff_getElem.1 h
 exact ⟨i,hi,by rw [List.getD_eq_getElem?_getD,List.getElem?_eq_getElem hi]; exact e⟩
theorem zsk (a:Int) (ws:List Nat) (hI:Wd.I64 a) (hT:0 < ws.sum):∀ z ∈ Sh.allot a ws,Wd.I64 z:=by
 intro z hz
 obtain ⟨i,hi,rfl⟩:=ztx hz
 rw [zoz]
 have:=Sh.sizes_le a.natAbs ws hT i
 unfold Wd.I64 at *
 split <;> omega
theorem zoy (a:Int) (p:Option Addr) (n cap:Nat) (ws:List Nat) (w:World) (hI:Wd.I64 a) (hn:IsNums w p n (ni ws)) (h1:1≤n) (h8:n≤8) (hw:∀ i,i < n→1≤ws.getD i 0∧ws.getD i 0≤1000000) :
  Calls Tryz.prog 252 #[.int .i64 a,.slice p n cap] w fun e w'=>∃ q k,e = .returned (.tuple #[.slice q n k,.int .i64 0])∧IsNums w' q n (Sh.allot a ws)∧Below w.heap.size w w':=by
 obtain ⟨hl,_,hn⟩:=hn
 have hl2:ws.length = n:=by simpa [ni] using hl
 rcases hn with h | ⟨b,off,rfl,hn⟩
 ·omega
 ·refine (zus a b off n cap ws w hI hn hl2 h1 h8 hw).mono ?_
  rintro _ w' ⟨v,rfl,hown,hb⟩
  have hT:0 < ws.sum:=by
   have h:=hw 0 (by omega)
   have:=Sh.getD_le_sum ws 0
   omega
  obtain ⟨q,k,rfl,hN⟩:=zkj hown (zsk a ws hI hT)
  exact ⟨q,k,rfl,hN,hb⟩
theorem zlz {w:World} {b:Nat} {zs:List Int} {t:TypeId} (h:Row w b (iv zs).toArray t) (hz:∀ z ∈ zs,Wd.I64 z):IsNums w (some ⟨b,0,none⟩) zs.length zs:=by
 refine ⟨rfl,hz,.inr ⟨b,0,rfl,fun i hi=>?_⟩⟩
 rw [Nat.zero_add,h.cell i]
 unfold iv
 simp [hi,List.getD_eq_getElem?_getD]
theorem i111:∀ z ∈ ni [1,1,1],Wd.I64 z:=by
 intro z hz
 simp [ni] at hz
 subst hz
 unfold Wd.I64
 omega
theorem i433:∀ z ∈ [(4:Int),3,3],Wd.I64 z:=by
 intro z hz
 simp at hz
 unfold Wd.I64
 omega
theorem w111:∀ i,i < 3→1≤[1,1,1].getD i 0∧[1,1,1].getD i 0≤1000000:=by
 intro i hi
 obtain rfl | rfl | rfl:i = 0∨i = 1∨i = 2:=by omega
 all_goals exact ⟨by decide,by decide⟩
set_option maxHeartbeats 1000000 in
theorem awake3 (w:World) (hG:Glb w) :
  Calls Tryz.prog 251 #[] w fun e w'=>e = .returned (.bool true)∧Below w.heap.size w w':=by
 have r3:Sh.allot 10 [1,1,1] = [4,3,3]:=by decide +kernel
 go_enter Tryz.func251,Tryz.ntmps251
 go_wp2_with fail
 have N1:IsNums (w.alloc (.cells (iv [1,1,1]).toArray 2)) (some ⟨w.heap.size,0,none⟩) 3 (ni [1,1,1]):=zlz (Row.new w _ _) i111
 refine (zoy 10 _ 3 3 [1,1,1] _ (by unfold Wd.I64; omega) N1 (by omega) (by omega) w111).mono ?_
 rintro _ w1 ⟨q,k,rfl,hN,hb⟩
 have hB1:=zab ((Below.refl _ w).alloc (Nat.le_refl _) _) hb
 rw [r3] at hN
 go_wp2_with fail
 have N2:IsNums (w1.alloc (.cells (iv [4,3,3]).toArray 2)) (some ⟨w1.heap.size,0,none⟩) 3 [4,3,3]:=zlz (Row.new w1 _ _) i433
 refine (zod q _ k 3 3 [4,3,3] _ (hN.below ((Below.refl _ w1).alloc (Nat.le_refl _) _)) N2 (by omega)).mono ?_
 rintro _ w2 ⟨rfl,hb2⟩
 have hB2:=zab (zaa hB1 _) hb2
 go_wp2_with fail
 refine (awake2 _ (hG.below hB2)).mono ?_
 rintro _ w3 ⟨rfl,hb3⟩
 go_wp2
 go_ret
 exact ⟨rfl,zab hB2 hb3⟩
theorem of_1970 (w:World) (hM:Glb5 w) :
  Calls Tryz.prog 209 #[.int .i64 1970,.int .i64 1,.int .i64 1] w fun e w'=>e = .returned (.tuple #[.int .i32 0,.bool true])∧w' = w:=by
 have L1:=hdq (zcj 1970 1 (by omega) (by omega) (by omega))
 rw [show Dy.long 1970 1 = 31 by decide] at L1
 have A1:=hdq (zbl 1970 (by omega))
 rw [show Dy.ahead 1970 = 0 by decide] at A1
 go_enter Tryz.func209,Tryz.ntmps209
 go_wp2_with fail
 refine (L1.out _ hM).mono ?_
 rintro _ w1 ⟨rfl,rfl⟩
 go_wp2_with fail
 refine (A1.out _).mono ?_
 rintro _ w1 ⟨rfl,rfl⟩
 go_wp2_with fail
 refine wp_loop_rounds 1 ?_
 rw [rounds_succ]
 go_wp2
 go_ret2
 exact ⟨rfl,rfl⟩
theorem of_2000 (w:World) (hM:Glb5 w) :
  Calls Tryz.prog 209 #[.int .i64 2000,.int .i64 2,.int .i64 29] w fun e w'=>e = .returned (.tuple #[.int .i32 11016,.bool true])∧w' = w:=by
 have L1:=hdq (zcj 2000 2 (by omega) (by omega) (by omega))
 rw [show Dy.long 2000 2 = 29 by decide] at L1
 have L2:=hdq (zcj 2000 1 (by omega) (by omega) (by omega))
 rw [show Dy.long 2000 1 = 31 by decide] at L2
 have A1:=hdq (zbl 2000 (by omega))
 rw [show Dy.ahead 2000 = 10957 by decide] at A1
 go_enter Tryz.func209,Tryz.ntmps209
 go_wp2_with fail
 refine (L1.out _ hM).mono ?_
 rintro _ w1 ⟨rfl,rfl⟩
 go_wp2_with fail
 refine (A1.out _).mono ?_
 rintro _ w1 ⟨rfl,rfl⟩
 go_wp2_with fail
 refine wp_loop_rounds 2 ?_
 rw [rounds_succ]
 go_wp2_with fail
 refine (L2.out _ hM).mono ?_
 rintro _ w1 ⟨rfl,rfl⟩
 go_wp2_with fail
 rw [rounds_succ]
 go_wp2
 go_ret2
 exact ⟨rfl,rfl⟩
theorem zsb (w:World) (hM:Glb5 w) :
  Calls Tryz.prog 107 #[.int .i32 11016] w fun e w'=>e = .returned (.tuple #[.int .i64 2000,.int .i64 2,.int .i64 29])∧w' = w:=by
 have L1:=hdq (zcj 2000 2 (by omega) (by omega) (by omega))
 rw [show Dy.long 2000 2 = 29 by decide] at L1
 have L2:=hdq (zcj 2000 1 (by omega) (by omega) (by omega))
 rw [show Dy.long 2000 1 = 31 by decide] at L2
 have A1:=hdq (zbl 1 (by omega))
 rw [show Dy.ahead 1 = -719162 by decide] at A1
 have A2:=hdq (zbl 10000 (by omega))
 rw [show Dy.ahead 10000 = 2932897 by decide] at A2
 have A3:=hdq (zbl 2000 (by omega))
 rw [show Dy.ahead 2000 = 10957 by decide] at A3
 have A4:=hdq (zbl 2001 (by omega))
 rw [show Dy.ahead 2001 = 11323 by decide] at A4
 go_enter Tryz.func107,Tryz.ntmps107
 go_wp2_with fail
 refine (A1.out _).mono ?_
 rintro _ w1 ⟨rfl,rfl⟩
 go_wp2_with fail
 refine (A2.out _).mono ?_
 rintro _ w1 ⟨rfl,rfl⟩
 go_wp2_with fail
 refine wp_loop_rounds 1 ?_
 rw [rounds_succ]
 go_wp2_with fail
 refine (A3.out _).mono ?_
 rintro _ w1 ⟨rfl,rfl⟩
 go_wp2_with fail
 refine wp_loop_rounds 1 ?_
 rw [rounds_succ]
 go_wp2_with fail
 refine (A4.out _).mono ?_
 rintro _ w1 ⟨rfl,rfl⟩
 go_wp2_with fail
 refine (A3.out _).mono ?_
 rintro _ w1 ⟨rfl,rfl⟩
 go_wp2_with fail
 refine wp_loop_rounds 2 ?_
 rw [rounds_succ]
 go_wp2_with fail
 refine (L2.out _ hM).mono ?_
 rintro _ w1 ⟨rfl,rfl⟩
 go_wp2_with fail
 refine (L2.out _ hM).mono ?_
 rintro _ w1 ⟨rfl,rfl⟩
 go_wp2_with fail
 rw [rounds_succ]
 go_wp2_with fail
 refine (L1.out _ hM).mono ?_
 rintro _ w1 ⟨rfl,rfl⟩
 go_wp2
 go_ret3
 exact ⟨rfl,rfl⟩
theorem zfe (n:Int) (h:Wd.I64 n) (w:World) (hG:Glb w) :
  Calls Tryz.prog 151 #[.int .i64 n] w fun e w'=>e = .returned (.string ⟨(Lib.itoa n).toArray⟩)∧Below w.heap.size w w':=by
 unfold Wd.I64 at h
 refine (Any.strconv_Itoa Tryz.laysM171 n h.1 h.2 w hG.pow).mono ?_
 rintro _ w' ⟨rfl,k,os,rfl⟩
 exact ⟨rfl,Lib.below_grow w.heap.size w (Nat.le_refl _) k os⟩
set_option maxRecDepth 100000 in
theorem repeat0 (s:ByteArray) (w:World):Calls Tryz.prog 152 #[.string s,.int .i64 0] w fun e w'=>e = .returned (.string ⟨#[]⟩)∧w' = w:=by
 go_enter Tryz.func152,Tryz.ntmps152
 go_wp2
 go_ret
 exact ⟨rfl,rfl⟩
set_option maxRecDepth 100000 in
theorem repeat1 (s:ByteArray) (w:World):Calls Tryz.prog 152 #[.string s,.int .i64 1] w fun e w'=>e = .returned (.string s)∧w' = w:=by
 go_enter Tryz.func152,Tryz.ntmps152
 go_wp2
 go_ret
 exact ⟨rfl,rfl⟩
theorem zth (w:World) (hG:Glb w):Calls Tryz.prog 108 #[.int .i64 2000,.int .i64 4] w fun e w'=>e = .returned (.string ⟨#[50,48,48,48]⟩)∧Below w.heap.size w w':=by
 have I:=hdq (zfe 2000 (by unfold Wd.I64; omega))
 rw [show Lib.itoa 2000 = [50,48,48,48] by decide +kernel] at I
 go_enter Tryz.func108,Tryz.ntmps108
 go_wp2_with fail
 refine (I.out _ hG).mono ?_
 rintro _ w1 ⟨rfl,hb⟩
 go_wp2_with fail
 refine (repeat0 _ _).mono ?_
 rintro _ w2 ⟨rfl,rfl⟩
 go_wp2
 go_ret
 exact ⟨zdd (by decide),hb⟩
theorem pad_2 (w:World) (hG:Glb w):Calls Tryz.prog 108 #[.int .i64 2,.int .i64 2] w fun e w'=>e = .returned (.string ⟨#[48,50]⟩)∧Below w.heap.size w w':=by
 have I:=hdq (zfe 2 (by unfold Wd.I64; omega))
 rw [show Lib.itoa 2 = [50] by decide +kernel] at I
 go_enter Tryz.func108,Tryz.ntmps108
 go_wp2_with fail
 refine (I.out _ hG).mono ?_
 rintro _ w1 ⟨rfl,hb⟩
 go_wp2_with fail
 refine (repeat1 _ _).mono ?_
 rintro _ w2 ⟨rfl,rfl⟩
 go_wp2
 go_ret
 exact ⟨zdd (by decide),hb⟩
theorem pad_29 (w:World) (hG:Glb w):Calls Tryz.prog 108 #[.int .i64 29,.int .i64 2] w fun e w'=>e = .returned (.string ⟨#[50,57]⟩)∧Below w.heap.size w w':=by
 have I:=hdq (zfe 29 (by unfold Wd.I64; omega))
 rw [show Lib.itoa 29 = [50,57] by decide +kernel] at I
 go_enter Tryz.func108,Tryz.ntmps108
 go_wp2_with fail
 refine (I.out _ hG).mono ?_
 rintro _ w1 ⟨rfl,hb⟩
 go_wp2_with fail
 refine (repeat0 _ _).mono ?_
 rintro _ w2 ⟨rfl,rfl⟩
 go_wp2
 go_ret
 exact ⟨zdd (by decide),hb⟩
theorem zuj (w:World) (hM:Glb5 w):Calls Tryz.prog 71 #[.int .i32 11016] w fun e w'=>e = .returned (.string ⟨#[50,48,48,48,45,48,50,45,50,57]⟩)∧Below w.heap.size w w':=by
 go_enter Tryz.func71,Tryz.ntmps71
 go_wp2_with fail
 refine (zsb _ hM).mono ?_
 rintro _ w1 ⟨rfl,rfl⟩
 go_wp2_with fail
 refine (zth _ hM.glb).mono ?_
 rintro _ w1 ⟨rfl,hb1⟩
 go_wp2_with fail
 refine (pad_2 _ (hM.glb.below hb1)).mono ?_
 rintro _ w2 ⟨rfl,hb2⟩
 have hB2:=zab hb1 hb2
 go_wp2_with fail
 refine (pad_29 _ (hM.glb.below hB2)).mono ?_
 rintro _ w3 ⟨rfl,hb3⟩
 go_wp2
 go_ret
 exact ⟨zdd (by decide),zab hB2 hb3⟩
set_option maxHeartbeats 1000000 in
theorem awake4 (w:World) (hM:Glb5 w):Calls Tryz.prog 250 #[] w fun e w'=>e = .returned (.bool true)∧Below w.heap.size w w':=by
 go_enter Tryz.func250,Tryz.ntmps250
 go_wp2_with fail
 refine (of_1970 _ hM).mono ?_
 rintro _ w1 ⟨rfl,rfl⟩
 go_wp2_with fail
 refine (of_2000 _ hM).mono ?_
 rintro _ w1 ⟨rfl,rfl⟩
 go_wp2_with fail
 refine (zuj _ hM).mono ?_
 rintro _ w2 ⟨rfl,hb2⟩
 go_wp2_with fail
 refine (awake3 _ (hM.glb.below hb2)).mono ?_
 rintro _ w3 ⟨rfl,hb3⟩
 go_wp2
 go_ret
 exact ⟨rfl,zab hb2 hb3⟩
theorem zvb (a b i:Nat) (h:b < 2 ^ i):(a * 2 ^ i) ||| b = a * 2 ^ i + b:=by
 rw [← Nat.shiftLeft_eq]
 exact (Nat.shiftLeft_add_eq_or_of_lt h a).symm
theorem zqf (a e p:Nat) (ha:a < 4294967296) (he:e < 65536) (hp:p < 65536) :
  bits BinOp.or IntKind.u64 (bits BinOp.or IntKind.u64 ((a:Int) * 4294967296) ((e:Int) * 65536)) (p:Int) = ((a * 4294967296 + e * 65536 + p:Nat):Int):=by
 have e1:bits BinOp.or IntKind.u64 ((a:Int) * 4294967296) ((e:Int) * 65536) = ((a * 4294967296 + e * 65536:Nat):Int):=by
  have h:=bits_or_u64_nat (a * 4294967296) (e * 65536) (by omega) (by omega)
  rw [show ((a * 4294967296:Nat):Int) = (a:Int) * 4294967296 by omega,show ((e * 65536:Nat):Int) = (e:Int) * 65536 by omega] at h
  rw [h,zvb a (e * 65536) 32 (by omega)]
 rw [e1,bits_or_u64_nat _ p (by omega) (by omega)]
 rw [show a * 4294967296 + e * 65536 = (a * 65536 + e) * 2 ^ 16 by omega,zvb _ p 16 (by omega)]
theorem zti (a e p:Nat) (ha:a < 4294967296) (he:e < 65536) (hp:p < 65536) (w:World) :
  Calls Tryz.prog 249 #[.agg #[.int .u32 (a:Int),.int .u16 (e:Int),.int .u16 (p:Int)]] w fun r w'=>r = .returned (.int .u64 ((a * 4294967296 + e * 65536 + p:Nat):Int))∧Below w.heap.size w w':=by
 go_enter Tryz.func249,Tryz.ntmps249
 go_wp2
 go_ret
 exact ⟨zkc (zqf a e p ha he hp),(Below.refl _ _).alloc (Nat.le_refl _) _⟩
theorem awake5 (w:World) (hM:Glb5 w):Calls Tryz.prog 246 #[] w fun e w'=>e = .returned (.bool true)∧Below w.heap.size w w':=by
 have P:=hdq (zti 1 2 3 (by omega) (by omega) (by omega))
 rw [show ((1 * 4294967296 + 2 * 65536 + 3:Nat):Int) = 4295098371 from rfl] at P
 go_enter Tryz.func246,Tryz.ntmps246
 go_wp2_with fail
 refine (P.out _).mono ?_
 rintro _ w1 ⟨rfl,hb1⟩
 go_wp2_with fail
 refine (awake4 _ (hM.below hb1)).mono ?_
 rintro _ w2 ⟨rfl,hb2⟩
 go_wp2
 go_ret
 exact ⟨rfl,zab hb1 hb2⟩
end Go.Proofs.YtlpdfglbdijkoaaGreatDoor