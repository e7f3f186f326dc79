/-
  Own texts, several in one (Of15, Awake15, Law15a, In15).
-/
import Derived.Test.YtlpdfglbdijkoaaGreatDoorOwnLine10
import Derived.Deep.QuietTactic
import Derived.BigQuiet
import Derived.Test.YtlpdfglbdijkoaaGreatDoorMrg28
import Derived.Test.YtlpdfglbdijkoaaGreatDoorMrg13
import Derived.Test.YtlpdfglbdijkoaaGreatDoorMrg27
namespace Go.Proofs.YtlpdfglbdijkoaaGreatDoor
open Go.RowKit
set_option linter.unusedVariables false
set_option linter.unusedSimpArgs false
def opA (k:Int) (fr tt:Nat) (nm:ByteArray) (pp ps:Option Addr) (np cp ns cs:Nat) (e at':Int):Array Value:=#[.int .i64 k,.int .u32 (fr:Int),.int .u32 (tt:Int),.string nm,.slice pp np cp,.slice ps ns cs,.int .i32 e,.int .i64 at']
set_option maxHeartbeats 4000000 in
set_option maxRecDepth 100000 in
theorem zjq (a:Option Addr) (cap:Nat) (l:List Ac) (k:Int) (fr tt:Nat) (nm:ByteArray) (pp ps:Option Addr) (np cp ns cs:Nat) (e at':Int) (w:World) (hE:ElsAt ac 4 ac0 w a l) (hl:l.length≤1000000) (hr:AcRise l) (hn:getC l fr = none) :
  Calls Tryz.prog 32 #[.slice a l.length cap,.agg (opA k fr tt nm pp ps np cp ns cs e at')] w fun r w'=>r = .returned (.tuple #[.slice none 0 0,.int .i64 8])∧Below w.heap.size w w':=by
 have BX:=zaa (Below.refl _ w) (.cells (opA k fr tt nm pp ps np cp ns cs e at') 47)
 have HG:=hdq (zde a cap l fr _ (hE.below BX) hl hr)
 rw [hn] at HG
 have HBX:=hdq BX
 clear hE hl hr hn BX
 unfold opA at *
 go_enter Tryz.func32,Tryz.ntmps32
 go_wp2_with fail
 refine HG.out.mono ?_
 rintro _ w1 ⟨rfl,hb⟩
 have HB:=hdq (zab HBX.out hb)
 clear HG hb
 simp only [Option.getD_none,Option.isSome_none]
 unfold ac
 go_wp2_with fail
 exact bodyPost_ret (v:=.tuple #[.slice none 0 0,.int .i64 8]) (by simp [results,Tryz.results32,go_sem]) rfl ⟨rfl,zaa HB.out _⟩
def zF:Array Value:=#[.slice none 0 0,.slice none 0 0,.slice none 0 0,.int .i32 0]
set_option maxHeartbeats 4000000 in
set_option maxRecDepth 100000 in
theorem zqn (a:Option Addr) (cap:Nat) (l:List Ac) (p2 p3:Option Addr) (n2 n3 c2 c3:Nat) (E f9 l9:Int) (s9:Bool) (fr tt:Nat) (nm:ByteArray) (pp ps:Option Addr) (np cp ns cs:Nat) (e at':Int) (w:World) (hE:ElsAt ac 4 ac0 w a l) (hl:l.length≤1000000) (hr:AcRise l) (hn:getC l fr = none) :
  Calls Tryz.prog 12 #[.agg #[.slice a l.length cap,.slice p2 n2 c2,.slice p3 n3 c3,.int .i32 E],.agg #[.int .i32 f9,.int .i32 l9,.bool s9],.agg (opA 0 fr tt nm pp ps np cp ns cs e at')] w fun r w'=>r = .returned (.tuple #[.agg zF,.int .i64 8])∧Below w.heap.size w w':=by
 have HC:=hdq (fun W (hb:Below w.heap.size w W)=>zjq a cap l 0 fr tt nm pp ps np cp ns cs e at' W (hE.below hb) hl hr hn)
 have HU:Hid (∀ W,Calls Tryz.prog 13 #[.int .i64 0] W fun e w'=>e = .returned (.bool false)∧w' = W):=hdq fun W=>zba 0 W
 unfold opA zF at *
 have B1:=zaa (Below.refl _ w) (.cells #[.slice a l.length cap,.slice p2 n2 c2,.slice p3 n3 c3,.int .i32 E] 41)
 have R1:=Row.new w #[.slice a l.length cap,.slice p2 n2 c2,.slice p3 n3 c3,.int .i32 E] 41
 have B2:=zaa B1 (.cells #[.int .i32 f9,.int .i32 l9,.bool s9] 53)
 have R2:=R1.alloc (.cells #[.int .i32 f9,.int .i32 l9,.bool s9] 53)
 have z2:((w.alloc (.cells #[.slice a l.length cap,.slice p2 n2 c2,.slice p3 n3 c3,.int .i32 E] 41)).alloc (.cells #[.int .i32 f9,.int .i32 l9,.bool s9] 53)).heap.size = w.heap.size + 1 + 1:=by simp
 generalize hwb:(w.alloc (.cells #[.slice a l.length cap,.slice p2 n2 c2,.slice p3 n3 c3,.int .i32 E] 41)).alloc (.cells #[.int .i32 f9,.int .i32 l9,.bool s9] 53) = wb at B2 R2 z2
 have B3:=zaa B2 (.cells #[.int .i64 0,.int .u32 (fr:Int),.int .u32 (tt:Int),.string nm,.slice pp np cp,.slice ps ns cs,.int .i32 e,.int .i64 at'] 47)
 have R3:=R2.alloc (.cells #[.int .i64 0,.int .u32 (fr:Int),.int .u32 (tt:Int),.string nm,.slice pp np cp,.slice ps ns cs,.int .i32 e,.int .i64 at'] 47)
 have O3:=Row.new' wb #[.int .i64 0,.int .u32 (fr:Int),.int .u32 (tt:Int),.string nm,.slice pp np cp,.slice ps ns cs,.int .i32 e,.int .i64 at'] 47 z2.symm
 have z3:(wb.alloc (.cells #[.int .i64 0,.int .u32 (fr:Int),.int .u32 (tt:Int),.string nm,.slice pp np cp,.slice ps ns cs,.int .i32 e,.int .i64 at'] 47)).heap.size = w.heap.size + 1 + 1 + 1:=by simp [z2]
 generalize hwc:wb.alloc (.cells #[.int .i64 0,.int .u32 (fr:Int),.int .u32 (tt:Int),.string nm,.slice pp np cp,.slice ps ns cs,.int .i32 e,.int .i64 at'] 47) = wc at B3 R3 O3 z3
 have B4:=zaa B3 (.cells #[.slice none 0 0,.slice none 0 0,.slice none 0 0,.int .i32 0] 41)
 have R4:=R3.alloc (.cells #[.slice none 0 0,.slice none 0 0,.slice none 0 0,.int .i32 0] 41)
 have O4:=O3.alloc (.cells #[.slice none 0 0,.slice none 0 0,.slice none 0 0,.int .i32 0] 41)
 have Z4:=Row.new' wc #[.slice none 0 0,.slice none 0 0,.slice none 0 0,.int .i32 0] 41 z3.symm
 generalize hwd:wc.alloc (.cells #[.slice none 0 0,.slice none 0 0,.slice none 0 0,.int .i32 0] 41) = wd9 at B4 R4 O4 Z4
 subst hwb; subst hwc
 clear hE hl hr hn B1 R1 B2 R2 z2 B3 R3 O3 z3
 have HB4:=hdq B4
 have HR4:=hdq R4
 have HO4:=hdq O4
 have HZ4:=hdq Z4
 have HWD:=hdq hwd
 clear B4 R4 O4 Z4 hwd
 go_enter Tryz.func12,Tryz.ntmps12
 go_wp2_with fail
 rw [HWD.out]
 refine (HU.out _).mono ?_
 rintro _ w5 ⟨rfl,h5⟩
 rw [h5]
 clear h5 w5
 have g0:wd9.cell? ⟨w.heap.size,0,none⟩ = some (.slice a l.length cap):=HR4.out.cell 0
 have o0:wd9.cell? ⟨w.heap.size + 1 + 1,0,none⟩ = some (.int .i64 0):=HO4.out.cell 0
 have o1:wd9.cell? ⟨w.heap.size + 1 + 1,1,none⟩ = some (.int .u32 (fr:Int)):=HO4.out.cell 1
 have o2:wd9.cell? ⟨w.heap.size + 1 + 1,2,none⟩ = some (.int .u32 (tt:Int)):=HO4.out.cell 2
 have o3:wd9.cell? ⟨w.heap.size + 1 + 1,3,none⟩ = some (.string nm):=HO4.out.cell 3
 have o4:wd9.cell? ⟨w.heap.size + 1 + 1,4,none⟩ = some (.slice pp np cp):=HO4.out.cell 4
 have o5:wd9.cell? ⟨w.heap.size + 1 + 1,5,none⟩ = some (.slice ps ns cs):=HO4.out.cell 5
 have o6:wd9.cell? ⟨w.heap.size + 1 + 1,6,none⟩ = some (.int .i32 e):=HO4.out.cell 6
 have o7:wd9.cell? ⟨w.heap.size + 1 + 1,7,none⟩ = some (.int .i64 at'):=HO4.out.cell 7
 go_wp2_with fail
 refine (HC.out _ HB4.out).mono ?_
 rintro _ w6 ⟨rfl,hb⟩
 have RF:=HR4.out.below hb
 have RZ:=HZ4.out.below hb
 have HB6:=hdq (zab HB4.out hb)
 have f0:w6.cell? ⟨w.heap.size,0,none⟩ = some (.slice a l.length cap):=RF.cell 0
 have f1:w6.frozen? ⟨w.heap.size,0,none⟩ = false:=RF.frozen 0
 have S7:=zaf w6 w.heap.size 0 (.slice none 0 0)
 have Z7:=RZ.stored S7 (by omega)
 have HB7:=hdq (S7.below HB6.out (Nat.le_refl _))
 have HZ7:=hdq Z7
 clear g0 o0 o1 o2 o3 o4 o5 o6 o7 RF RZ S7 Z7 hb
 go_wp2_with (first | (refine zad rfl 41 _ _ rfl (w.heap.size + 1 + 1 + 1) #[.slice none 0 0,.slice none 0 0,.slice none 0 0,.int .i32 0] rfl rfl HZ7.out (by kernel_rfl) rfl (by simp [Value.oneCell']) rfl ?_; intro w9 RZ9 S9))
 have d0:w9.cell? ⟨w.heap.size + 1 + 1 + 1,0,none⟩ = some (.slice none 0 0):=RZ9.cell 0
 have d1:w9.cell? ⟨w.heap.size + 1 + 1 + 1,1,none⟩ = some (.slice none 0 0):=RZ9.cell 1
 have d2:w9.cell? ⟨w.heap.size + 1 + 1 + 1,2,none⟩ = some (.slice none 0 0):=RZ9.cell 2
 have d3:w9.cell? ⟨w.heap.size + 1 + 1 + 1,3,none⟩ = some (.int .i32 0):=RZ9.cell 3
 refine bodyPost_ret (v:=.tuple #[.agg #[.slice none 0 0,.slice none 0 0,.slice none 0 0,.int .i32 0],.int .i64 8]) (by simp [results,Tryz.results12,go_sem,d0,d1,d2,d3]) rfl ⟨rfl,S9.below HB7.out (by omega)⟩
set_option maxHeartbeats 4000000 in
set_option maxRecDepth 100000 in
theorem zut (a:Option Addr) (cap:Nat) (l:List Ac) (p2 p3:Option Addr) (n2 n3 c2 c3:Nat) (E f9 l9:Int) (s9:Bool) (fr tt:Nat) (nm:ByteArray) (pp ps:Option Addr) (np cp ns cs:Nat) (e at':Int) (go:Nat) (w:World) (hE:ElsAt ac 4 ac0 w a l) (hl:l.length≤1000000) (hr:AcRise l) (hn:getC l fr = none) (hO:Row w go (opA 0 fr tt nm pp ps np cp ns cs e at') 47) :
  Calls Tryz.prog 17 #[.agg #[.slice a l.length cap,.slice p2 n2 c2,.slice p3 n3 c3,.int .i32 E],.agg #[.int .i32 f9,.int .i32 l9,.bool s9],.slice (some ⟨go,0,none⟩) 1 1] w fun r w'=>r = .returned (.tuple #[.agg zF,.int .i64 0,.int .i64 8])∧Below w.heap.size w w':=by
 have HN:=hdq (fun W (hb:Below w.heap.size w W)=>zqn a cap l p2 p3 n2 n3 c2 c3 E f9 l9 s9 fr tt nm pp ps np cp ns cs e at' W (hE.below hb) hl hr hn)
 unfold opA zF at *
 have B1:=zaa (Below.refl _ w) (.cells #[.slice a l.length cap,.slice p2 n2 c2,.slice p3 n3 c3,.int .i32 E] 41)
 have R1:=Row.new w #[.slice a l.length cap,.slice p2 n2 c2,.slice p3 n3 c3,.int .i32 E] 41
 have B2:=zaa B1 (.cells #[.int .i32 f9,.int .i32 l9,.bool s9] 53)
 have R2:=R1.alloc (.cells #[.int .i32 f9,.int .i32 l9,.bool s9] 53)
 have Q2:=Row.new' (w.alloc (.cells #[.slice a l.length cap,.slice p2 n2 c2,.slice p3 n3 c3,.int .i32 E] 41)) #[.int .i32 f9,.int .i32 l9,.bool s9] 53 (g:=w.heap.size + 1) (by simp)
 have z2:((w.alloc (.cells #[.slice a l.length cap,.slice p2 n2 c2,.slice p3 n3 c3,.int .i32 E] 41)).alloc (.cells #[.int .i32 f9,.int .i32 l9,.bool s9] 53)).heap.size = w.heap.size + 1 + 1:=by simp
 generalize hwb:(w.alloc (.cells #[.slice a l.length cap,.slice p2 n2 c2,.slice p3 n3 c3,.int .i32 E] 41)).alloc (.cells #[.int .i32 f9,.int .i32 l9,.bool s9] 53) = wb at B2 R2 Q2 z2
 have B4:=zaa B2 (.cells #[.slice none 0 0,.slice none 0 0,.slice none 0 0,.int .i32 0] 41)
 have R4:=R2.alloc (.cells #[.slice none 0 0,.slice none 0 0,.slice none 0 0,.int .i32 0] 41)
 have Q4:=Q2.alloc (.cells #[.slice none 0 0,.slice none 0 0,.slice none 0 0,.int .i32 0] 41)
 have Z4:=Row.new' wb #[.slice none 0 0,.slice none 0 0,.slice none 0 0,.int .i32 0] 41 z2.symm
 generalize hwd:wb.alloc (.cells #[.slice none 0 0,.slice none 0 0,.slice none 0 0,.int .i32 0] 41) = wd9 at B4 R4 Q4 Z4
 subst hwb
 have O4:=hO.below B4
 have HB4:=hdq B4
 have HR4:=hdq R4
 have HQ4:=hdq Q4
 have HZ4:=hdq Z4
 have HO4:=hdq O4
 have HWD:=hdq hwd
 clear hE hl hr hn hO B1 R1 B2 R2 Q2 z2 B4 R4 Q4 Z4 O4 hwd
 go_enter Tryz.func17,Tryz.ntmps17
 go_wp2_with fail
 rw [HWD.out]
 refine wp_loop_rounds 1 ?_
 rw [rounds_succ]
 have o0:wd9.cell? ⟨go,0,none⟩ = some (.int .i64 0):=HO4.out.cell 0
 have o1:wd9.cell? ⟨go,1,none⟩ = some (.int .u32 (fr:Int)):=HO4.out.cell 1
 have o2:wd9.cell? ⟨go,2,none⟩ = some (.int .u32 (tt:Int)):=HO4.out.cell 2
 have o3:wd9.cell? ⟨go,3,none⟩ = some (.string nm):=HO4.out.cell 3
 have o4:wd9.cell? ⟨go,4,none⟩ = some (.slice pp np cp):=HO4.out.cell 4
 have o5:wd9.cell? ⟨go,5,none⟩ = some (.slice ps ns cs):=HO4.out.cell 5
 have o6:wd9.cell? ⟨go,6,none⟩ = some (.int .i32 e):=HO4.out.cell 6
 have o7:wd9.cell? ⟨go,7,none⟩ = some (.int .i64 at'):=HO4.out.cell 7
 have f0:(wd9.alloc (.cells #[.int .i64 0,.int .u32 (fr:Int),.int .u32 (tt:Int),.string nm,.slice pp np cp,.slice ps ns cs,.int .i32 e,.int .i64 at'] 47)).cell? ⟨w.heap.size,0,none⟩ = some (.slice a l.length cap):=(HR4.out.alloc _).cell 0
 have f1:(wd9.alloc (.cells #[.int .i64 0,.int .u32 (fr:Int),.int .u32 (tt:Int),.string nm,.slice pp np cp,.slice ps ns cs,.int .i32 e,.int .i64 at'] 47)).cell? ⟨w.heap.size,1,none⟩ = some (.slice p2 n2 c2):=(HR4.out.alloc _).cell 1
 have f2:(wd9.alloc (.cells #[.int .i64 0,.int .u32 (fr:Int),.int .u32 (tt:Int),.string nm,.slice pp np cp,.slice ps ns cs,.int .i32 e,.int .i64 at'] 47)).cell? ⟨w.heap.size,2,none⟩ = some (.slice p3 n3 c3):=(HR4.out.alloc _).cell 2
 have f3:(wd9.alloc (.cells #[.int .i64 0,.int .u32 (fr:Int),.int .u32 (tt:Int),.string nm,.slice pp np cp,.slice ps ns cs,.int .i32 e,.int .i64 at'] 47)).cell? ⟨w.heap.size,3,none⟩ = some (.int .i32 E):=(HR4.out.alloc _).cell 3
 have q0:(wd9.alloc (.cells #[.int .i64 0,.int .u32 (fr:Int),.int .u32 (tt:Int),.string nm,.slice pp np cp,.slice ps ns cs,.int .i32 e,.int .i64 at'] 47)).cell? ⟨w.heap.size + 1,0,none⟩ = some (.int .i32 f9):=(HQ4.out.alloc _).cell 0
 have q1:(wd9.alloc (.cells #[.int .i64 0,.int .u32 (fr:Int),.int .u32 (tt:Int),.string nm,.slice pp np cp,.slice ps ns cs,.int .i32 e,.int .i64 at'] 47)).cell? ⟨w.heap.size + 1,1,none⟩ = some (.int .i32 l9):=(HQ4.out.alloc _).cell 1
 have q2:(wd9.alloc (.cells #[.int .i64 0,.int .u32 (fr:Int),.int .u32 (tt:Int),.string nm,.slice pp np cp,.slice ps ns cs,.int .i32 e,.int .i64 at'] 47)).cell? ⟨w.heap.size + 1,2,none⟩ = some (.bool s9):=(HQ4.out.alloc _).cell 2
 have BE:=zaa HB4.out (.cells #[.int .i64 0,.int .u32 (fr:Int),.int .u32 (tt:Int),.string nm,.slice pp np cp,.slice ps ns cs,.int .i32 e,.int .i64 at'] 47)
 have ZE:=HZ4.out.alloc (.cells #[.int .i64 0,.int .u32 (fr:Int),.int .u32 (tt:Int),.string nm,.slice pp np cp,.slice ps ns cs,.int .i32 e,.int .i64 at'] 47)
 go_wp2_with fail
 refine (HN.out _ BE).mono ?_
 rintro _ w6 ⟨rfl,hb⟩
 have Z6:=(ZE.below hb).alloc (.cells #[.slice none 0 0,.slice none 0 0,.slice none 0 0,.int .i32 0] 41)
 have HB6:=hdq (zaa (zab BE hb) (.cells #[.slice none 0 0,.slice none 0 0,.slice none 0 0,.int .i32 0] 41))
 have HZ6:=hdq Z6
 clear o0 o1 o2 o3 o4 o5 o6 o7 f0 f1 f2 f3 q0 q1 q2 BE ZE hb Z6
 go_wp2_with (first | (refine zad rfl 41 _ _ rfl (w.heap.size + 1 + 1) #[.slice none 0 0,.slice none 0 0,.slice none 0 0,.int .i32 0] rfl rfl HZ6.out (by kernel_rfl) rfl (by simp [Value.oneCell']) rfl ?_; intro w9 RZ9 S9))
 have d0:w9.cell? ⟨w.heap.size + 1 + 1,0,none⟩ = some (.slice none 0 0):=RZ9.cell 0
 have d1:w9.cell? ⟨w.heap.size + 1 + 1,1,none⟩ = some (.slice none 0 0):=RZ9.cell 1
 have d2:w9.cell? ⟨w.heap.size + 1 + 1,2,none⟩ = some (.slice none 0 0):=RZ9.cell 2
 have d3:w9.cell? ⟨w.heap.size + 1 + 1,3,none⟩ = some (.int .i32 0):=RZ9.cell 3
 refine bodyPost_ret (v:=.tuple #[.agg #[.slice none 0 0,.slice none 0 0,.slice none 0 0,.int .i32 0],.int .i64 0,.int .i64 8]) (by simp [results,Tryz.results17,go_sem,d0,d1,d2,d3]) rfl ⟨rfl,S9.below HB6.out (by omega)⟩
set_option maxHeartbeats 4000000 in
set_option maxRecDepth 100000 in
theorem awake15 (w:World) (hM:Glb13 w):Calls Tryz.prog 8 #[] w fun r w'=>r = .returned (.bool true)∧Below w.heap.size w w':=by
 have HM:=hdq hM
 clear hM
 go_enter Tryz.func8,Tryz.ntmps8
 go_wp2_with fail
 refine (frame10 w).mono ?_
 rintro _ w1 ⟨c,u,b,rfl,RC,RU,RB,hb⟩
 have HB1:=hdq hb
 have HRC:=hdq RC
 clear hb RC RU RB
 go_wp2_with fail
 have RO:=Row.new w1 #[.int .i64 0,.int .u32 1,.int .u32 2,.string ⟨#[]⟩,.slice none 0 0,.slice none 0 0,.int .i32 0,.int .i64 0] 47
 have RK:=HRC.out.alloc (.cells #[.int .i64 0,.int .u32 1,.int .u32 2,.string ⟨#[]⟩,.slice none 0 0,.slice none 0 0,.int .i32 0,.int .i64 0] 47)
 have hE:ElsAt ac 4 ac0 (w1.alloc (.cells #[.int .i64 0,.int .u32 1,.int .u32 2,.string ⟨#[]⟩,.slice none 0 0,.slice none 0 0,.int .i32 0,.int .i64 0] 47)) (some ⟨c,0,none⟩) [cash]:=.inr ⟨c,0,rfl,fun i hi j v hv=>by
  obtain rfl:i = 0:=by simpa using hi
  rw [show 0 + 0 * 4 + j = j by omega,RK.cell j]
  simpa [ac,cash] using hv⟩
 refine (zut (some ⟨c,0,none⟩) 1 [cash] (some ⟨u,0,none⟩) (some ⟨b,0,none⟩) 1 1 1 1 31 0 0 false 1 2 ⟨#[]⟩ none none 0 0 0 0 0 0 w1.heap.size _ hE (by simp) (fun i j h1 h2=>by simp at h2; omega) rfl RO).mono ?_
 rintro _ w2 ⟨rfl,hb⟩
 have HB2:=hdq (zab (zaa HB1.out (.cells #[.int .i64 0,.int .u32 1,.int .u32 2,.string ⟨#[]⟩,.slice none 0 0,.slice none 0 0,.int .i32 0,.int .i64 0] 47)) hb)
 unfold zF
 clear RO RK hE hb HRC
 go_wp2_with fail
 refine (awake14 _ (HM.out.below (zaa HB2.out _))).mono ?_
 rintro _ w3 ⟨rfl,hb3⟩
 have HB3:=hdq (zab (zaa HB2.out _) hb3)
 clear hb3
 go_wp2_with fail
 go_ret
 exact ⟨rfl,HB3.out⟩
def J10.okW (w:World) (x:J10):Prop:=x.later≤255∧(∀ y ∈ x.lines,y.ok)∧ElsAt l10 4 l100 w x.p x.lines
open Go.RowKit Go.ChangeShapes Go.WideShapes
theorem list4o {α:Type} {l:List α} (h:l.length = 4):∃ a b c d,l = [a,b,c,d]:=by
 match l,h with
 | [a,b,c,d],_=>exact ⟨a,b,c,d,rfl⟩
theorem list5o {α:Type} {l:List α} (h:l.length = 5):∃ a b c d e,l = [a,b,c,d,e]:=by
 match l,h with
 | [a,b,c,d,e],_=>exact ⟨a,b,c,d,e,rfl⟩
section
variable {H:Type} {enc:TypeId × Value→H} {W:World} {base:Nat} {sp:Nat→Bool} {held:Bool}
theorem rd_u16 (n:Nat) (cs:List Value) (y:DataW H × List MemPlace) (h:DataW.trod enc Tryz.prog W base sp held n 56 cs = some y):∃ x:Int,(0≤x∧x≤65535)∧cs = [.int .u16 x]:=by
 obtain ⟨z0,e0,_,b0⟩:=DataW.trod_int Tryz.underlying56 h
 have b0:=Go.bounds_u16 b0
 exact ⟨z0,by omega,e0⟩
theorem rd_a6 (n:Nat) (cs:List Value) (y:DataW H × List MemPlace) (h:DataW.trod enc Tryz.prog W base sp held n 116 cs = some y):∃ x:A6,x.ok∧cs = a6 x:=by
 have c0:Tryz.prog.cellsOf 116 = 4:=by kernel_rfl
 have c1:Tryz.prog.cellsOf 5 = 1:=by kernel_rfl
 obtain ⟨xs,m,_,_,hl,hx,hf⟩:=DataW.trod_struct Tryz.underlying116 h
 rw [c0] at hl
 obtain ⟨x0,x1,x2,x3,rfl⟩:=list4o hl
 have g0:=hf 0 _ rfl
 have g1:=hf 1 _ rfl
 have g2:=hf 2 _ rfl
 have g3:=hf 3 _ rfl
 simp [c1] at g0 g1 g2 g3
 obtain ⟨y0,y1,y2,y3,rfl⟩:=list4o hx
 simp at g0 g1 g2 g3
 obtain ⟨z0,b0,e0⟩:=zef _ _ _ g0
 obtain ⟨z1,b1,e1⟩:=zef _ _ _ g1
 obtain ⟨z2,b2,e2⟩:=zef _ _ _ g2
 obtain ⟨z3,b3,e3⟩:=zef _ _ _ g3
 simp at e0 e1 e2 e3
 subst e0
 subst e1
 subst e2
 subst e3
 refine ⟨⟨z0.toNat,z1.toNat,z2.toNat,z3.toNat⟩,⟨?_,?_,?_,?_⟩,?_⟩
 ·show z0.toNat≤255; omega
 ·show z1.toNat≤255; omega
 ·show z2.toNat≤255; omega
 ·show z3.toNat≤255; omega
 ·unfold a6
  simp only
  rw [show ((z0.toNat:Nat):Int) = z0 by omega,show ((z1.toNat:Nat):Int) = z1 by omega,show ((z2.toNat:Nat):Int) = z2 by omega,show ((z3.toNat:Nat):Int) = z3 by omega]
theorem rd_l10 (n:Nat) (cs:List Value) (y:DataW H × List MemPlace) (h:DataW.trod enc Tryz.prog W base sp held n 140 cs = some y):∃ x:L10,x.ok∧cs = l10 x:=by
 have c0:Tryz.prog.cellsOf 140 = 4:=by kernel_rfl
 have c1:Tryz.prog.cellsOf 5 = 1:=by kernel_rfl
 have c2:Tryz.prog.cellsOf 2 = 1:=by kernel_rfl
 obtain ⟨xs,m,_,_,hl,hx,hf⟩:=DataW.trod_struct Tryz.underlying140 h
 rw [c0] at hl
 obtain ⟨x0,x1,x2,x3,rfl⟩:=list4o hl
 have g0:=hf 0 _ rfl
 have g1:=hf 1 _ rfl
 have g2:=hf 2 _ rfl
 have g3:=hf 3 _ rfl
 simp [c1,c2] at g0 g1 g2 g3
 obtain ⟨y0,y1,y2,y3,rfl⟩:=list4o hx
 simp at g0 g1 g2 g3
 obtain ⟨z0,b0,e0⟩:=zef _ _ _ g0
 obtain ⟨z1,b1,e1⟩:=zef _ _ _ g1
 obtain ⟨z2,b2,e2⟩:=zef _ _ _ g2
 obtain ⟨z3,e3,_,b3⟩:=DataW.trod_int Tryz.underlying2 g3
 have b3:=Go.bounds_i64 b3
 simp at e0 e1 e2 e3
 subst e0
 subst e1
 subst e2
 subst e3
 refine ⟨⟨z0.toNat,z1.toNat,z2.toNat,z3⟩,⟨?_,?_,?_,?_,?_⟩,?_⟩
 ·show z0.toNat≤255; omega
 ·show z1.toNat≤255; omega
 ·show z2.toNat≤255; omega
 ·show _≤z3; omega
 ·show z3≤_; omega
 ·unfold l10
  simp only
  rw [show ((z0.toNat:Nat):Int) = z0 by omega,show ((z1.toNat:Nat):Int) = z1 by omega,show ((z2.toNat:Nat):Int) = z2 by omega]
set_option maxRecDepth 100000 in
theorem rd_j10 (n:Nat) (cs:List Value) (y:DataW H × List MemPlace) (h:DataW.trod enc Tryz.prog W base sp held n 84 cs = some y):∃ x:J10,x.okW W∧cs = j10 x:=by
 have c0:Tryz.prog.cellsOf 84 = 2:=by kernel_rfl
 have c1:Tryz.prog.cellsOf 5 = 1:=by kernel_rfl
 have c2:Tryz.prog.cellsOf 82 = 1:=by kernel_rfl
 obtain ⟨xs,m,_,_,hl,hx,hf⟩:=DataW.trod_struct Tryz.underlying84 h
 rw [c0] at hl
 obtain ⟨x0,x1,rfl⟩:=list2o hl
 have g0:=hf 0 _ rfl
 have g1:=hf 1 _ rfl
 simp [c1,c2] at g0 g1
 obtain ⟨y0,y1,rfl⟩:=list2o hx
 simp at g0 g1
 obtain ⟨z0,b0,e0⟩:=zef _ _ _ g0
 obtain ⟨a4,k4,l4,e4,h4,E4,m4,n4⟩:=zcd l10 4 l100 _ Tryz.underlying82 (by kernel_rfl) (by omega) (fun _=>rfl) rd_l10 g1
 simp at e0 e4
 subst e0
 subst e4
 refine ⟨⟨z0.toNat,l4,a4,k4⟩,⟨?_,h4,E4⟩,?_⟩
 ·show z0.toNat≤255; omega
 ·unfold j10
  simp only
  rw [show ((z0.toNat:Nat):Int) = z0 by omega]
theorem zvc (k:IntKind) {a:Option Addr} {cap:Nat} {l:List Int} (h:ElsAt (fun x:Int=>[Value.int k x]) 1 0 W a l):NsAt k W (.slice a l.length cap) l:=by
 refine ⟨a,cap,rfl,?_⟩
 rcases h with h | ⟨b,off,e,h⟩
 ·exact .inl h
 ·exact .inr ⟨b,off,e,fun i hi=>by
   have:=h i hi 0 _ rfl
   simpa using this⟩
set_option maxRecDepth 100000 in
theorem open_bk {r:Reach} {b0:Nat} {v:Value} {d:DataW H} {ps:List MemPlace} (hval:Value.okWide Tryz.prog W r b0 28 v) (h:DataW.Trod enc Tryz.prog W base sp held 28 v d ps) :
  ∃ (a:Option Addr) (cap:Nat) (l:List A6) (pu:Option Addr) (cu:Nat) (lu:List Int) (first:Int) (pl:Option Addr) (cl:Nat) (long:List Int) (aj:Option Addr) (cj:Nat) (lj:List J10),v = .agg #[.slice a l.length cap,.slice pu lu.length cu,.int .i16 first,.slice pl long.length cl,.slice aj lj.length cj] ∧
   ElsAt a6 4 a60 W a l∧(∀ x ∈ l,x.ok)∧NsAt .u16 W (.slice pu lu.length cu) lu∧(∀ n ∈ lu,0≤n∧n≤65535)∧(-32768≤first∧first≤32767)∧(∀ n ∈ long,0≤n∧n≤255)∧NsAt .u8 W (.slice pl long.length cl) long∧ElsAt j10 2 j100 W aj lj∧(∀ x ∈ lj,x.okW W)∧lj.length≤9223372036854775807:=by
 obtain ⟨cs,rfl,hsz⟩:=okWide_struct Tryz.underlying28 hval
 obtain ⟨n,h⟩:=h
 have c0:Tryz.prog.cellsOf 28 = 5:=by kernel_rfl
 have c1:Tryz.prog.cellsOf 22 = 1:=by kernel_rfl
 have c2:Tryz.prog.cellsOf 23 = 1:=by kernel_rfl
 have c3:Tryz.prog.cellsOf 24 = 1:=by kernel_rfl
 have c4:Tryz.prog.cellsOf 25 = 1:=by kernel_rfl
 have c5:Tryz.prog.cellsOf 26 = 1:=by kernel_rfl
 obtain ⟨xs,m,_,_,hl,hx,hf⟩:=DataW.trod_struct Tryz.underlying28 h
 rw [c0] at hl
 obtain ⟨x0,x1,x2,x3,x4,hcs⟩:=list5o hl
 have g0:=hf 0 _ rfl
 have g1:=hf 1 _ rfl
 have g2:=hf 2 _ rfl
 have g3:=hf 3 _ rfl
 have g4:=hf 4 _ rfl
 rw [hcs] at g0 g1 g2 g3 g4
 simp [c1,c2,c3,c4,c5] at g0 g1 g2 g3 g4
 obtain ⟨y0,y1,y2,y3,y4,rfl⟩:=list5o hx
 simp at g0 g1 g2 g3 g4
 obtain ⟨a0,k0,l0,e0,h0,E0,m0,n0⟩:=zcd a6 4 a60 _ Tryz.underlying22 (by kernel_rfl) (by omega) (fun _=>rfl) rd_a6 g0
 obtain ⟨a1,k1,l1,e1,h1,E1,m1,n1⟩:=zcd (fun x:Int=>[Value.int .u16 x]) 1 0 _ Tryz.underlying23 (by kernel_rfl) (by omega) (fun _=>rfl) rd_u16 g1
 obtain ⟨z2,e2,_,b2⟩:=DataW.trod_int Tryz.underlying24 g2
 obtain ⟨a3,k3,l3,e3,h3,E3,m3,n3⟩:=zcd (fun x:Int=>[Value.int .u8 x]) 1 0 _ Tryz.underlying25 (by kernel_rfl) (by omega) (fun _=>rfl) zef g3
 obtain ⟨a4,k4,l4,e4,h4,E4,m4,n4⟩:=zcd j10 2 j100 _ Tryz.underlying26 (by kernel_rfl) (by omega) (fun _=>rfl) rd_j10 g4
 have b2:=Go.bounds_i16 b2
 simp at e0 e1 e2 e3 e4
 subst e0
 subst e1
 subst e2
 subst e3
 subst e4
 simp only [maxLen] at n4
 refine ⟨a0,k0,l0,a1,k1,l1,z2,a3,k3,l3,a4,k4,l4,?_,E0,h0,zvc .u16 E1,h1,by omega,h3,zvc .u8 E3,E4,h4,by omega⟩
 have e:cs = #[.slice a0 l0.length k0,.slice a1 l1.length k1,.int .i16 z2,.slice a3 l3.length k3,.slice a4 l4.length k4]:=Array.toList_inj.1 hcs
 rw [e]
end
end Go.Proofs.YtlpdfglbdijkoaaGreatDoor