/-
  Own texts, several in one (JSums, Date, Text, JCheck).
-/
import Derived.Test.YtlpdfglbdijkoaaGreatDoorMrg5
import Derived.Test.YtlpdfglbdijkoaaGreatDoorMrg8
import Derived.Maps.Keyed
import Derived.Carry
import Derived.Shelf.Strings.Repeat
import Derived.Lib.ItoaLen
import Derived.Maps.RangeRun
namespace Go.Proofs.YtlpdfglbdijkoaaGreatDoor
open Go.RowKit
open Go.Maps (Keyed)
set_option linter.unusedVariables false
set_option linter.unusedSimpArgs false
structure Ln where
 acc:Nat
 ent:Nat
 cnt:Nat
 am:Int
def ln (x:Ln):List Value:=[.int .u32 (x.acc:Int),.int .u16 (x.ent:Int),.int .u16 (x.cnt:Int),.int .i64 x.am]
def ln0:Ln:=⟨0,0,0,0⟩
def Ln.ok (x:Ln):Prop:=(x.acc < 4294967296∧x.ent < 65536∧x.cnt < 65536)∧Wd.I64 x.am
def Ln.kv (x:Ln):Nat × Int:=(x.ent,x.am)
def encU (n:Nat):Value:=.int .u16 (n:Int)
theorem zhm (c d:Nat) (h:encU c = encU d):c = d:=by
 unfold encU at h
 injection h with _ h
 omega
theorem keyedU:Keyed Tryz.prog 56:=Maps.int_keyed Tryz.underlying56
theorem key_ofU (n:Nat) (h:n < 65536):keyOf Tryz.prog 56 (encU n) = some (.int .u16 (n:Int)):=Maps.keyOf_int_mk Tryz.underlying56 (by simp [Lit.wf,IntKind.min,IntKind.max,IntKind.bits,IntKind.signed]; omega)
set_option maxHeartbeats 4000000 in
set_option maxRecDepth 100000 in
theorem zjd (d:Int) (a:Option Addr) (cap:Nat) (l:List Ln) (w:World) (hl:l.length≤1000) (hok:∀ x ∈ l,x.ok) (hE:ElsAt ln 4 ln0 w a l) :
  Calls Tryz.prog 219 #[.agg #[.int .i32 d,.slice a l.length cap]] w fun e w'=>∃ b,e = .returned (.map (some b))∧w.heap.size≤b∧MapIs w' Tryz.prog 56 encU wvalT b l.length (tG (l.map Ln.kv))∧Below w.heap.size w w':=by
 have HB1:=hdq (zaa (Below.refl _ w) (.cells #[.int .i32 d,.slice a l.length cap] 109))
 have HE:=hdq hE
 have HOK:=hdq hok
 have HL:=hdq hl
 have mm:∀ (t:TypeId) (W:World),(Instr.makeMap t none).run Tryz.prog W = .ok (.map (some W.heap.size)) (W.alloc (.map #[] 0)):=fun _ _=>rfl
 clear hE hok hl
 go_enter Tryz.func219,Tryz.ntmps219
 go_wp2_with fail
 generalize hw1:w.alloc (.cells #[.int .i32 d,.slice a l.length cap] 109) = w1 at *
 have e1:w1.heap.size = w.heap.size + 1:=by rw [← hw1]; simp
 have hM0:=MapIs.new (κ:=Nat) (ν:=Int) w1 Tryz.prog 56 encU wvalT
 have HB2:=hdq (zaa HB1.out (.map #[] 0))
 rw [e1] at hM0
 obtain ⟨b,hb⟩:∃ b,b = w.heap.size + 1:=⟨_,rfl⟩
 have hbw:w.heap.size≤b:=by omega
 rw [← hb] at hM0
 rw [← hb]
 generalize w1.alloc (.map #[] 0) = w2 at *
 have HM0:=hdq hM0
 have HBW:=hdq hbw
 clear hM0 hbw hb e1 hw1 mm HB1
 go_loopw [10] (fun i wr=>∃ k:Nat,k≤l.length∧i = .int .i64 k∧MapIs wr Tryz.prog 56 encU wvalT b k (tG ((l.map Ln.kv).take k))∧Below w.heap.size w wr) (fun i _=>l.length - (intOf i).toNat)
 case atStart=>exact ⟨0,by omega,rfl,by rw [List.take_zero,tG_nil]; exact HM0.out,HB2.out⟩
 case round =>
  obtain ⟨k,hk,rfl,hM,BB⟩:=hrel
  have HM:=hdq hM
  have HBB:=hdq BB
  clear hM BB HM0 HB2
  by_cases hlt:k < l.length
  ·have hk1:(0:Int)≤(k:Int):=by omega
   have hk2:(k:Int) < (l.length:Int):=by omega
   obtain ⟨bl,off,rfl,hcells⟩:∃ bl off,a = some ⟨bl,off,none⟩∧∀ i,i < l.length→w.rangeAt bl (off + i * 4) (ln (l.getD i ln0)):=by
    rcases HE.out with h | h
    ·exact absurd hlt (by rw [h]; simp)
    ·exact h
   have hx:=hcells k hlt
   have hox:=HOK.out _ (zay (d:=ln0) hlt)
   have HT:=hdq (zge l Ln.kv ln0 k hlt)
   generalize l.getD k ln0 = x at *
   have RX:=zah hx HBB.out
   have c0:wr.cell? ⟨bl,off + k * 4,none⟩ = some (.int .u32 (x.acc:Int)):=RX 0 _ rfl
   have c1:wr.cell? ⟨bl,off + k * 4 + 1,none⟩ = some (.int .u16 (x.ent:Int)):=RX 1 _ rfl
   have c2:wr.cell? ⟨bl,off + k * 4 + 2,none⟩ = some (.int .u16 (x.cnt:Int)):=RX 2 _ rfl
   have c3:wr.cell? ⟨bl,off + k * 4 + 3,none⟩ = some (.int .i64 x.am):=RX 3 _ rfl
   clear hcells hx RX
   go_wp2_with fail
   obtain ⟨g5,hg5⟩:∃ g,g = wr.heap.size:=⟨_,rfl⟩
   have hBx:=zaa (Below.refl _ wr) (.cells #[.int .u32 (x.acc:Int),.int .u16 (x.ent:Int),.int .u16 (x.cnt:Int),.int .i64 x.am] 142)
   have Rg:=Row.new wr #[.int .u32 (x.acc:Int),.int .u16 (x.ent:Int),.int .u16 (x.cnt:Int),.int .i64 x.am] 142
   have hb8:b < g5:=by rw [hg5]; exact HM.out.lt
   rw [← hg5] at Rg
   rw [← hg5]
   have HM1:=hdq (HM.out.below hBx)
   have HBB1:=hdq (zab HBB.out hBx)
   clear hBx hg5 HM HBB c0 c1 c2 c3
   generalize wr.alloc (.cells #[.int .u32 (x.acc:Int),.int .u16 (x.ent:Int),.int .u16 (x.cnt:Int),.int .i64 x.am] 142) = wz at *
   have hblk:∀ w',wz.grownBy w' (some b)→Row w' g5 #[.int .u32 (x.acc:Int),.int .u16 (x.ent:Int),.int .u16 (x.cnt:Int),.int .i64 x.am] 142:=fun w' h=>(h.block g5 Rg.lt (by intro e; injection e with e; omega)).trans Rg
   obtain ⟨v0,hv0⟩:∃ v0,v0 = tsum ((l.map Ln.kv).take k) x.ent:=⟨_,rfl⟩
   have hkey:=key_ofU x.ent hox.1.2.1
   have hval:getV wvalT (wvalT 0) (tG ((l.map Ln.kv).take k) x.ent) = wvalT v0:=by
    rw [hv0,← tG_get]
    cases tG ((l.map Ln.kv).take k) x.ent <;> rfl
   have HLK:Hid (∀ W:World,MapIs W Tryz.prog 56 encU wvalT b k (tG ((l.map Ln.kv).take k))→(Instr.lookup 293 (.map (some b)) (.int .u16 (x.ent:Int)) false).run Tryz.prog W = .ok (.agg #[.int .i64 (Wd.hi (v0)),.int .u64 (Wd.lo (v0))]) W):=hdq fun W h=>by
    have h:=MapIs.look (enc:=encU) (vl:=wvalT) (e:=302) (t:=293) h keyedU Tryz.underlying293 zhm (zeroT W) x.ent hkey
    rw [hval] at h
    exact h
   have HU:Hid (∀ W:World,MapIs W Tryz.prog 56 encU wvalT b k (tG ((l.map Ln.kv).take k))→∃ w',(Instr.mapUpdate 293 (.map (some b)) (.int .u16 (x.ent:Int)) (.agg #[.int .i64 (Wd.hi (v0 + x.am)),.int .u64 (Wd.lo (v0 + x.am))])).run Tryz.prog W = .ok () w'∧MapIs w' Tryz.prog 56 encU wvalT b (k + 1) (tG ((l.map Ln.kv).take (k + 1)))∧W.grownBy w' (some b)):=hdq fun W h=>by
    obtain ⟨w',h1,h2,h3⟩:=MapIs.store h keyedU Tryz.underlying293 zhm (by have:=HL.out; unfold maxLen; omega) x.ent (v0 + x.am) hkey
    refine ⟨w',h1,?_,h3⟩
    have e:=tG_step ((l.map Ln.kv).take k) (Ln.kv x)
    rw [HT.out,← e]
    rw [hv0] at h2
    exact h2
   have ev:IntKind.i64.wrap ((k:Int) + 1) = ((k + 1:Nat):Int):=by have:=HL.out; rw [IntKind.wrap_i64]; omega
   clear hv0 hkey hval
   refine zch (n:=12) 11 4 (by kernel_rfl) (fun c' w'=>wz.grownBy w' (some b)∧MapIs w' Tryz.prog 56 encU wvalT b (if c' then k + 1 else k) (tG ((l.map Ln.kv).take (if c' then k + 1 else k)))) (fun i=>(#[.map (some b),.pointer (some ⟨g5,1,none⟩),.int .u16 (x.ent:Int),.map (some b),.pointer (some ⟨g5,1,none⟩),.int .u16 (x.ent:Int),.agg #[.int .i64 (Wd.hi (v0)),.int .u64 (Wd.lo (v0))],.pointer (some ⟨g5,3,none⟩),.int .i64 x.am,.agg #[.int .i64 (Wd.hi (x.am)),.int .u64 (Wd.lo (x.am))],.agg #[.int .i64 (Wd.hi (v0 + x.am)),.int .u64 (Wd.lo (v0 + x.am))],undef]:Array Value).getD i undef) (by kernel_rfl) (by kernel_rfl) ⟨⟨rfl,rfl,rfl,Nat.le_refl _,fun _ _ _=>rfl⟩,HM1.out⟩ rfl ?_
   intro F hF
   simp only [fill,if_true,dstAt] at hF
   simp [Act.put] at hF
   subst hF
   refine ⟨?_,?_⟩
   ·intro i o ho c wx hcm S
    rcases i with _ | _ | _ | _ | _ | _ | _ | _ | _ | _ | _ | _ | i
    all_goals (first | (simp at ho; done) | (obtain rfl:=Option.some.inj ho))
    ·exact zas rfl S (by go_simp)
    ·exact zas rfl S (by go_simp)
    ·have R:=hblk wx S.1
     have c1:wx.cell? ⟨g5,1,none⟩ = some (.int .u16 (x.ent:Int)):=R.cell 1
     exact zas rfl S (by go_simp)
    ·exact zas rfl S (by go_simp)
    ·exact zas rfl S (by go_simp)
    ·have R:=hblk wx S.1
     have c1:wx.cell? ⟨g5,1,none⟩ = some (.int .u16 (x.ent:Int)):=R.cell 1
     exact zas rfl S (by go_simp)
    ·obtain rfl:c = false:=hcm (by kernel_rfl)
     have hl:=HLK.out wx S.2
     exact zas rfl S (by go_simp)
    ·exact zas rfl S (by go_simp)
    ·have R:=hblk wx S.1
     have c3:wx.cell? ⟨g5,3,none⟩ = some (.int .i64 x.am):=R.cell 3
     exact zas rfl S (by go_simp)
    ·exact zcy rfl rfl Tryz.func231 (by kernel_rfl) rfl #[.int .i64 x.am] (by go_simp) ((zqj x.am hox.2 wx).mono (by rintro _ wy ⟨rfl,hb⟩; exact ⟨rfl,S.1.trans (zez hb),S.2.below hb⟩))
    ·exact zcy rfl rfl Tryz.func230 (by kernel_rfl) rfl #[.agg #[.int .i64 (Wd.hi (v0)),.int .u64 (Wd.lo (v0))],.agg #[.int .i64 (Wd.hi (x.am)),.int .u64 (Wd.lo (x.am))]] (by go_simp) ((zgd v0 x.am wx).mono (by rintro _ wy ⟨rfl,hb⟩; exact ⟨rfl,S.1.trans (zez hb),S.2.below hb⟩))
    ·obtain rfl:c = false:=hcm (by kernel_rfl)
     obtain ⟨w',hr,hM',hg⟩:=HU.out wx S.2
     exact zpa rfl ⟨S.1.trans hg,hM'⟩ (by go_simp)
   ·intro wy S
    simp only [if_true] at S
    have HM2:=hdq S.2
    have HBB2:=hdq (zju HBB1.out HBW.out S.1)
    clear S hblk Rg HM1 HBB1 HLK HU
    go_wp2_with fail
    exact ⟨⟨k + 1,by omega,rfl,HM2.out,HBB2.out⟩,by simp [intOf]; omega⟩
  ·obtain rfl:k = l.length:=by omega
   have hk0:¬ ((l.length:Int) < (l.length:Int)):=by omega
   go_wp2
   go_ret
   refine ⟨b,rfl,HBW.out,?_,HBB.out⟩
   have h:=HM.out
   rwa [show (l.map Ln.kv).take l.length = l.map Ln.kv by rw [List.take_of_length_le (by simp)]] at h
namespace Dy
def mon (y:Int):Nat→Nat→Int→Nat × Int
 | 0,m,d=>(m,d)
 | f + 1,m,d=>if long y m≤d then mon y f (m + 1) (d - long y m) else (m,d)
def rem (y:Int):Nat→Int
 | 1=>(if leap y = true then 366 else 365)
 | 2=>(if leap y = true then 335 else 334)
 | 3=>306 | 4=>275 | 5=>245 | 6=>214 | 7=>184 | 8=>153 | 9=>122 | 10=>92 | 11=>61 | 12=>31
 | _=>0
theorem rem_step (y:Int) (m:Nat) (h1:1≤m) (h2:m≤12):rem y m = long y m + rem y (m + 1):=by
 have h:m = 1∨m = 2∨m = 3∨m = 4∨m = 5∨m = 6∨m = 7∨m = 8∨m = 9∨m = 10∨m = 11∨m = 12:=by omega
 rcases h with rfl | rfl | rfl | rfl | rfl | rfl | rfl | rfl | rfl | rfl | rfl | rfl
 all_goals (unfold rem long; cases leap y <;> simp [months,rem])
theorem long_pos (y:Int) (m:Nat) (h1:1≤m) (h2:m≤12):28≤long y m∧long y m≤31:=by
 have h:m = 1∨m = 2∨m = 3∨m = 4∨m = 5∨m = 6∨m = 7∨m = 8∨m = 9∨m = 10∨m = 11∨m = 12:=by omega
 rcases h with rfl | rfl | rfl | rfl | rfl | rfl | rfl | rfl | rfl | rfl | rfl | rfl
 all_goals (unfold long; cases leap y <;> simp [months])
theorem ahead_lt (a b:Int) (h:a < b):ahead a < ahead b:=by
 unfold ahead
 omega
theorem ahead_year (y:Int):ahead (y + 1) - ahead y = rem y 1:=by
 unfold ahead rem leap
 by_cases h4:y % 4 = 0 <;> by_cases h100:y % 100 = 0 <;> by_cases h400:y % 400 = 0 <;> simp [h4,h100,h400] <;> omega
theorem year_ex (n:Int) (h:-719162≤n∧n < 2932897):∃ y:Int,1≤y∧y≤9999∧ahead y≤n∧n < ahead (y + 1):=by
 have go:∀ (f:Nat) (y:Int),1≤y→y + f = 10000→ahead y≤n→∃ y:Int,1≤y∧y≤9999∧ahead y≤n∧n < ahead (y + 1):=fun f=>by
  induction f with
  | zero =>
   intro y h1 h2 h3
   have:y = 10000:=by omega
   rw [this] at h3
   have e:ahead 10000 = 2932897:=by decide
   omega
  | succ f ih =>
   intro y h1 h2 h3
   by_cases c:n < ahead (y + 1)
   ·exact ⟨y,h1,by omega,h3,c⟩
   ·exact ih (y + 1) (by omega) (by push_cast at h2; omega) (by omega)
 exact go 9999 1 (by omega) (by omega) (by rw [show ahead 1 = -719162 by decide]; exact h.1)
end Dy
theorem tdiv_bd (n:Int) (h:-719162≤n∧n < 2932897):-1965≤Int.tdiv n 366∧Int.tdiv n 366≤8014:=by
 by_cases c:0≤n
 ·rw [Int.tdiv_eq_ediv_of_nonneg c]
  omega
 ·have e:Int.tdiv n 366 = -(Int.tdiv (-n) 366):=by rw [Int.neg_tdiv]; omega
  rw [e,Int.tdiv_eq_ediv_of_nonneg (by omega)]
  omega
set_option maxHeartbeats 2000000 in
set_option maxRecDepth 100000 in
theorem zul (n y:Int) (hy:1≤y∧y≤9999) (h1:Dy.ahead y≤n) (h2:n < Dy.ahead (y + 1)) (w:World) (hM:Glb5 w) :
  Calls Tryz.prog 107 #[.int .i32 n] w fun e w'=>e = .returned (.tuple #[.int .i64 y,.int .i64 ((Dy.mon y 12 1 (n - Dy.ahead y)).1:Int),.int .i64 ((Dy.mon y 12 1 (n - Dy.ahead y)).2 + 1)])∧w' = w:=by
 have mono:∀ a b:Int,a≤b→Dy.ahead a≤Dy.ahead b:=fun a b h=>by
  by_cases c:a = b
  ·rw [c]; exact Int.le_refl _
  ·exact Int.le_of_lt (Dy.ahead_lt a b (by omega))
 have hn:-719162≤n∧n < 2932897:=by
  have e1:=mono 1 y hy.1
  have e2:=mono (y + 1) 10000 (by omega)
  rw [show Dy.ahead 1 = -719162 by decide] at e1
  rw [show Dy.ahead 10000 = 2932897 by decide] at e2
  omega
 have A1:=hdq (zbl 1 (by omega))
 rw [show Dy.ahead 1 = -719162 by decide] at A1
 have A2:=hdq (zbl 10000 (by omega))
 rw [show Dy.ahead 10000 = 2932897 by decide] at A2
 have AZ:=hdq fun (z:Int) (h:1≤z∧z≤10000)=>zbl z h
 have bd:∀ z:Int,1≤z→z≤10000→-719162≤Dy.ahead z∧Dy.ahead z≤2932897:=fun z a b=>by
  have e1:=mono 1 z a
  have e2:=mono z 10000 b
  rw [show Dy.ahead 1 = -719162 by decide] at e1
  rw [show Dy.ahead 10000 = 2932897 by decide] at e2
  omega
 have HY:=hdq (And.intro hy (And.intro h1 h2))
 have HMO:=hdq mono
 have HBD:=hdq bd
 have HM:=hdq hM
 have hq:=tdiv_bd n hn
 obtain ⟨q,eq⟩:∃ q,q = Int.tdiv n 366:=⟨_,rfl⟩
 rw [← eq] at hq
 have eq2:Int.tdiv n 366 = q:=eq.symm
 have HQ:=hdq hq
 have HN:=hdq hn
 obtain ⟨r,hr⟩:∃ r,r = Dy.mon y 12 1 (n - Dy.ahead y):=⟨_,rfl⟩
 rw [← hr]
 have HR:=hdq hr
 have n1:¬ n < -719162:=by omega
 have n2:¬ 2932897≤n:=by omega
 have e0:IntKind.i64.wrap n = n:=by rw [IntKind.wrap_i64]; omega
 have e3:IntKind.i64.wrap (1970 + q) = 1970 + q:=by rw [IntKind.wrap_i64]; omega
 have e4:IntKind.i64.wrap q = q:=by rw [IntKind.wrap_i64]; omega
 clear hM hy h1 h2 mono bd hq eq hr hn
 go_enter Tryz.func107,Tryz.ntmps107
 go_wp2_with fail
 refine (A1.out _).mono ?_
 rintro _ w1 ⟨rfl,rfl⟩
 go_wp2_with fail
 refine (A2.out _).mono ?_
 rintro _ w1 ⟨rfl,rfl⟩
 go_wp2_with fail
 have HW:=hdq (Eq.refl w1)
 go_loopw [2] (fun iv wr=>∃ z:Int,1≤z∧z≤9999∧iv = .int .i64 z∧wr = w1) (fun iv _=>(intOf iv).toNat)
 case atStart=>exact ⟨1970 + q,by have:=HQ.out; omega,by have:=HQ.out; omega,rfl,rfl⟩
 case round =>
  obtain ⟨z,z1,z2,rfl,rfl⟩:=hrel
  by_cases hz:n < Dy.ahead z
  ·have hyz:HY.out.1.1 = HY.out.1.1:=rfl
   have hz1:1 < z:=by
    by_cases c:1 < z
    ·exact c
    ·have e:z = 1:=by omega
     rw [e,show Dy.ahead 1 = -719162 by decide] at hz
     have:=HN.out
     omega
   have HA:=hdq (AZ.out z ⟨z1,by omega⟩)
   have HZ:=hdq (And.intro z2 hz1)
   have ez:IntKind.i64.wrap (z - 1) = z - 1:=by rw [IntKind.wrap_i64]; omega
   generalize Dy.ahead z = az at *
   clear z1 z2 hz1 hyz
   go_wp2_with fail
   refine (HA.out _).mono ?_
   rintro _ w3 ⟨rfl,rfl⟩
   go_wp2_with fail
   have:=HZ.out
   exact ⟨⟨z - 1,by omega,by omega,rfl,by first | rfl | trivial⟩,by simp [intOf]; omega⟩
  ·have hzy:z≤y:=by
    by_cases c:z≤y
    ·exact c
    ·have h1:=HMO.out (y + 1) z (by omega)
     have h2:=HY.out.2.2
     omega
   have HA:=hdq (AZ.out z ⟨z1,by omega⟩)
   have HZ0:=hdq (And.intro z1 hzy)
   obtain ⟨az,haz⟩:∃ a,a = Dy.ahead z:=⟨_,rfl⟩
   rw [← haz] at hz HA
   clear z1 z2 hzy haz
   go_wp2_with fail
   refine (HA.out _).mono ?_
   rintro _ w3 ⟨rfl,rfl⟩
   go_wp2_with fail
   clear HA hz
   go_loopw [2] (fun iv wr=>∃ z:Int,1≤z∧z≤y∧iv = .int .i64 z∧wr = w3) (fun iv _=>(9999 - intOf iv).toNat)
   case atStart=>exact ⟨z,HZ0.out.1,HZ0.out.2,rfl,rfl⟩
   case round =>
    obtain ⟨z,z1,z2,rfl,rfl⟩:=hrel
    have hy9:y≤9999:=HY.out.1.2
    have HA:=hdq (AZ.out (z + 1) ⟨by omega,by omega⟩)
    have ez:IntKind.i64.wrap (z + 1) = z + 1:=by rw [IntKind.wrap_i64]; omega
    by_cases hz:Dy.ahead (z + 1)≤n
    ·have hzy:z + 1≤y:=by
      by_cases c:z + 1≤y
      ·exact c
      ·have e:z = y:=by omega
       rw [e] at hz
       have:=HY.out.2.2
       omega
     have HZ:=hdq (And.intro z1 hzy)
     generalize Dy.ahead (z + 1) = az at *
     clear z1 z2 hzy
     go_wp2_with fail
     refine (HA.out _).mono ?_
     rintro _ w4 ⟨rfl,rfl⟩
     go_wp2_with fail
     have:=HZ.out
     exact ⟨⟨z + 1,by omega,by omega,rfl,by first | rfl | trivial⟩,by simp [intOf]; omega⟩
    ·have hzy:z = y:=by
      by_cases c:z = y
      ·exact c
      ·have h1:=HMO.out (z + 1) y (by omega)
       have h2:=HY.out.2.1
       omega
     subst hzy
     have HAy:=hdq (AZ.out z ⟨z1,by omega⟩)
     obtain ⟨az,haz⟩:∃ a,a = Dy.ahead (z + 1):=⟨_,rfl⟩
     rw [← haz] at hz HA
     obtain ⟨ay,hay⟩:∃ a,a = Dy.ahead z:=⟨_,rfl⟩
     rw [← hay] at HAy
     have hb:=HBD.out z z1 (by omega)
     rw [← hay] at hb
     have HAYE:=hdq hay
     have ed:IntKind.i64.wrap (n - ay) = n - ay:=by have:=HN.out; rw [IntKind.wrap_i64]; omega
     have HZ1:=hdq (And.intro z1 z2)
     have hd0:0≤n - ay:=by rw [hay]; have:=HY.out.2.1; omega
     have hd1:n - ay < Dy.rem z 1:=by rw [hay,← Dy.ahead_year]; have:=HY.out.2.2; omega
     have HD:=hdq (And.intro hd0 hd1)
     clear z1 z2 haz hay hb hd0 hd1 hy9
     go_wp2_with fail
     refine (HA.out _).mono ?_
     rintro _ w4 ⟨rfl,rfl⟩
     go_wp2_with fail
     refine (HAy.out _).mono ?_
     rintro _ w5 ⟨rfl,rfl⟩
     clear HA hz HAy
     go_wp2_with fail
     have LG:=hdq fun (m:Nat) (a:1≤m) (b:m≤12)=>zcj z m ⟨HZ1.out.1,by have:=HY.out.1; omega⟩ a b w5 HM.out
     go_loopw [3,4] (fun mv dv wr=>∃ (f m:Nat) (d:Int),mv = .int .i64 (m:Int)∧dv = .int .i64 d∧Dy.mon z f m d = r∧f + m = 13∧1≤m∧m≤12∧0≤d∧d < Dy.rem z m∧wr = w5) (fun mv _ _=>(13 - intOf mv).toNat)
     case atStart=>exact ⟨12,1,n - ay,rfl,rfl,by rw [HAYE.out,HR.out],rfl,by omega,by omega,HD.out.1,HD.out.2,rfl⟩
     case round =>
      obtain ⟨f,m,d,rfl,rfl,hmon,hfm,hm1,hm2,hd0,hd1,rfl⟩:=hrel
      have HL:=hdq (LG.out m hm1 hm2)
      have hlp:=Dy.long_pos z m hm1 hm2
      have hst:=Dy.rem_step z m hm1 hm2
      obtain ⟨f',rfl⟩:∃ f',f = f' + 1:=⟨f - 1,by omega⟩
      have HMON:=hdq hmon
      have hdb:d < 367:=by
       have h1:Dy.rem z m≤366:=by
        have h:m = 1∨m = 2∨m = 3∨m = 4∨m = 5∨m = 6∨m = 7∨m = 8∨m = 9∨m = 10∨m = 11∨m = 12:=by omega
        rcases h with rfl | rfl | rfl | rfl | rfl | rfl | rfl | rfl | rfl | rfl | rfl | rfl
        all_goals (unfold Dy.rem; cases Dy.leap z <;> simp)
       omega
      by_cases hc:Dy.long z m≤d
      ·have hm12:m < 12:=by
        by_cases c:m < 12
        ·exact c
        ·have e:m = 12:=by omega
         rw [e] at hc hd1
         have e1:Dy.rem z 12 = 31:=rfl
         have e2:Dy.long z 12 = 31:=by unfold Dy.long; simp [Dy.months]
         omega
       have hmon2:Dy.mon z f' (m + 1) (d - Dy.long z m) = r:=by
        rw [← hmon]
        show _ = if Dy.long z m≤d then _ else _
        rw [if_pos hc]
       have HX:=hdq (And.intro hmon2 (And.intro hfm (And.intro hm12 (And.intro hc (And.intro hd1 hst)))))
       obtain ⟨lg,hlg⟩:∃ a,a = Dy.long z m:=⟨_,rfl⟩
       rw [← hlg] at HL hc hlp
       have HLG:=hdq hlg
       have HLP:=hdq hlp
       have HD0:=hdq hd0
       have e1:IntKind.i64.wrap (d - lg) = d - lg:=by rw [IntKind.wrap_i64]; omega
       have e2:IntKind.i64.wrap ((m:Int) + 1) = ((m + 1:Nat):Int):=by rw [IntKind.wrap_i64]; omega
       clear hmon hmon2 hfm hm1 hm2 hd0 hd1 hst hlp hlg hdb hm12
       go_wp2_with fail
       refine HL.out.mono ?_
       rintro _ w6 ⟨rfl,rfl⟩
       go_wp2_with fail
       refine HL.out.mono ?_
       rintro _ w7 ⟨rfl,rfl⟩
       go_wp2_with fail
       have hX:=HX.out
       rw [← HLG.out] at hX
       exact ⟨⟨f',m + 1,d - lg,by push_cast; rfl,rfl,hX.1,by omega,by omega,by omega,by omega,by omega,by first | rfl | trivial⟩,by simp [intOf]; omega⟩
      ·have hr2:r = (m,d):=by
        rw [← hmon]
        show (if Dy.long z m≤d then _ else _) = _
        rw [if_neg hc]
       have HR2:=hdq hr2
       obtain ⟨lg,hlg⟩:∃ a,a = Dy.long z m:=⟨_,rfl⟩
       rw [← hlg] at HL hc
       have e1:IntKind.i64.wrap (d + 1) = d + 1:=by rw [IntKind.wrap_i64]; omega
       clear hmon hr2 hfm hm1 hm2 hd0 hd1 hst hlp hlg hdb
       go_wp2_with fail
       refine HL.out.mono ?_
       rintro _ w6 ⟨rfl,rfl⟩
       go_wp2_with fail
       refine bodyPost_ret (v:=.tuple #[.int .i64 z,.int .i64 (m:Int),.int .i64 (d + 1)]) (by simp [results,Tryz.results107,go_sem]) rfl ⟨by rw [HR2.out],by first | rfl | trivial⟩
theorem znk (s:ByteArray) (c:Nat) (w:World) (hc:c≤1000000) (hs:s.size≤100000) :
  Calls Tryz.prog 152 #[.string s,.int .i64 (c:Int)] w fun e w'=>e = .returned (.string ⟨(Lib.repeatL s.data.toList c).toArray⟩)∧Below w.heap.size w w' :=
 Any.strings_Repeat Tryz.lays105 Tryz.Builder_Extra_105 s c w (by omega) (Nat.le_trans (Nat.mul_le_mul hs hc) (by omega))
theorem zct:∀ (c:Nat),(Lib.repeatL [48] c).length = c
 | 0=>rfl
 | c + 1=>by show (48 :: Lib.repeatL [48] c).length = c + 1; rw [List.length_cons,zct c]
def padL (n:Int) (size:Nat):List UInt8:=Lib.repeatL [48] (size - (Lib.itoa n).length) ++ Lib.itoa n
set_option maxHeartbeats 1000000 in
theorem zeu (n:Int) (size:Nat) (h:Wd.I64 n) (hs:size≤100) (hl:(Lib.itoa n).length≤100) (w:World) (hG:Glb w) :
  Calls Tryz.prog 108 #[.int .i64 n,.int .i64 (size:Int)] w fun e w'=>e = .returned (.string ⟨(padL n size).toArray⟩)∧Below w.heap.size w w':=by
 have I:=hdq (zfe n h)
 unfold padL
 generalize Lib.itoa n = t at *
 have HG:=hdq hG
 obtain ⟨c,hc⟩:∃ c,c = size - t.length:=⟨_,rfl⟩
 rw [← hc]
 have hcb:c≤100:=by omega
 have RP:=hdq fun W=>znk ⟨#[48]⟩ c W (by omega) (by show 1≤100000; omega)
 have hm:max ((size:Int) - (t.length:Int)) 0 = (c:Int):=by omega
 have ew:IntKind.i64.wrap ((size:Int) - (t.length:Int)) = (size:Int) - (t.length:Int):=by rw [IntKind.wrap_i64]; omega
 clear hc hG
 go_enter Tryz.func108,Tryz.ntmps108
 go_wp2_with fail
 refine (I.out _ HG.out).mono ?_
 rintro _ w1 ⟨rfl,hb⟩
 go_wp2_with fail
 refine (RP.out w1).mono ?_
 rintro _ w2 ⟨rfl,hb2⟩
 have HBB:=hdq (zab hb hb2)
 clear hb hb2 RP I
 show _
 simp only [show (⟨#[48]⟩:ByteArray).data.toList = [48] from rfl]
 have hzl:(Lib.repeatL [48] c).length = c:=zct c
 obtain ⟨z,hz⟩:∃ z,z = Lib.repeatL [48] c:=⟨_,rfl⟩
 rw [← hz] at hzl
 rw [← hz]
 have HZ:=hdq hz
 clear hz
 have hzt:¬ 9223372036854775807 < z.length + t.length:=by omega
 go_wp2
 go_ret
 refine ⟨?_,HBB.out⟩
 have e:(⟨(z ++ t).toArray⟩:ByteArray) = ⟨z.toArray⟩ ++ ⟨t.toArray⟩:=by
  apply ByteArray.ext
  simp
 show Ending.returned (.string (⟨z.toArray⟩ ++ ⟨t.toArray⟩)) = Ending.returned (.string ⟨(Lib.repeatL [48] c ++ t).toArray⟩)
 rw [← HZ.out,e]
def dayT (y m d:Int):List UInt8:=padL y 4 ++ [45] ++ padL m 2 ++ [45] ++ padL d 2
theorem zhg (n:Int) (h:0≤n∧n≤9999):(Lib.itoa n).length≤100:=Nat.le_trans (Lib.itoa_length_le n (by omega) (by omega)) (by omega)
theorem zqw (y:Int):∀ (f m:Nat) (d:Int),f + m = 13→1≤m→m≤12→0≤d→d < Dy.rem y m→1≤(Dy.mon y f m d).1∧(Dy.mon y f m d).1≤12∧0≤(Dy.mon y f m d).2∧(Dy.mon y f m d).2 < Dy.long y (Dy.mon y f m d).1
 | 0,m,d,h,h1,h2,_,_=>by omega
 | f + 1,m,d,h,h1,h2,h3,h4=>by
  unfold Dy.mon
  by_cases c:Dy.long y m≤d
  ·rw [if_pos c]
   have hst:=Dy.rem_step y m h1 h2
   have hm:m < 12:=by
    by_cases c2:m < 12
    ·exact c2
    ·have e:m = 12:=by omega
     rw [e] at c h4
     have e1:Dy.rem y 12 = 31:=rfl
     have e2:Dy.long y 12 = 31:=by unfold Dy.long; simp [Dy.months]
     omega
   exact zqw y f (m + 1) (d - Dy.long y m) (by omega) (by omega) (by omega) (by omega) (by omega)
  ·rw [if_neg c]
   exact ⟨h1,h2,h3,by show d < Dy.long y m; omega⟩
theorem zhe (n:Int) (size:Nat) (hs:size≤100) (hl:(Lib.itoa n).length≤100):(padL n size).length≤300:=by
 unfold padL
 rw [List.length_append,zct]
 omega
def Dy.md (n y:Int):Nat × Int:=Dy.mon y 12 1 (n - Dy.ahead y)
set_option maxHeartbeats 1000000 in
theorem zdg (n y:Int) (hy:1≤y∧y≤9999) (h1:Dy.ahead y≤n) (h2:n < Dy.ahead (y + 1)) (w:World) (hM:Glb5 w) :
  Calls Tryz.prog 71 #[.int .i32 n] w fun e w'=>e = .returned (.string ⟨(dayT y ((Dy.md n y).1:Int) ((Dy.md n y).2 + 1)).toArray⟩)∧Below w.heap.size w w':=by
 have D:=hdq (zul n y hy h1 h2 w hM)
 have hb:=zqw y 12 1 (n - Dy.ahead y) rfl (by omega) (by omega) (by omega) (by rw [← Dy.ahead_year]; omega)
 have hD:Dy.mon y 12 1 (n - Dy.ahead y) = Dy.md n y:=rfl
 rw [hD] at D hb
 generalize Dy.md n y = md at *
 obtain ⟨m,d⟩:=md
 have hlp:=Dy.long_pos y m hb.1 hb.2.1
 have hb2:0≤d∧d < 31:=⟨hb.2.2.1,by have:=hb.2.2.2; dsimp only at *; omega⟩
 have hb1:1≤m∧m≤12:=⟨hb.1,hb.2.1⟩
 have ly:=zhg y ⟨by omega,by omega⟩
 have lm:=zhg (m:Int) ⟨by omega,by omega⟩
 have ld:=zhg (d + 1) ⟨by omega,by omega⟩
 have PY:=hdq (zeu y 4 (by unfold Wd.I64; omega) (by omega) ly)
 have PM:=hdq (zeu (m:Int) 2 (by unfold Wd.I64; omega) (by omega) lm)
 have PD:=hdq (zeu (d + 1) 2 (by unfold Wd.I64; omega) (by omega) ld)
 have ky:=zhe y 4 (by omega) ly
 have km:=zhe (m:Int) 2 (by omega) lm
 have kd:=zhe (d + 1) 2 (by omega) ld
 unfold dayT
 obtain ⟨a,ha⟩:∃ a,a = padL y 4:=⟨_,rfl⟩
 obtain ⟨b,hbb⟩:∃ b,b = padL (m:Int) 2:=⟨_,rfl⟩
 obtain ⟨c,hc⟩:∃ c,c = padL (d + 1) 2:=⟨_,rfl⟩
 rw [← ha] at PY ky
 rw [← hbb] at PM km
 rw [← hc] at PD kd
 dsimp only at D
 have HMM:=hdq hM
 have HEQ:=hdq (And.intro ha (And.intro hbb hc))
 have y0:(y == 0) = false:=by rw [beq_eq_false_iff_ne]; omega
 clear hy h1 h2 hb hb1 hb2 hlp ly lm ld ha hbb hc hM hD
 go_enter Tryz.func71,Tryz.ntmps71
 go_wp2_with fail
 refine D.out.mono ?_
 rintro _ w1 ⟨rfl,rfl⟩
 go_wp2_with fail
 refine (PY.out _ HMM.out.glb).mono ?_
 rintro _ w2 ⟨rfl,hb2⟩
 have HB2:=hdq hb2
 clear hb2
 go_wp2_with fail
 refine (PM.out _ (HMM.out.glb.below HB2.out)).mono ?_
 rintro _ w3 ⟨rfl,hb3⟩
 have HB3:=hdq (zab HB2.out hb3)
 clear hb3
 go_wp2_with fail
 refine (PD.out _ (HMM.out.glb.below HB3.out)).mono ?_
 rintro _ w4 ⟨rfl,hb4⟩
 have HB4:=hdq (zab HB3.out hb4)
 clear hb4
 go_wp2
 go_ret
 refine ⟨?_,HB4.out⟩
 show Ending.returned (.string (⟨a.toArray⟩ ++ ⟨#[45]⟩ ++ ⟨b.toArray⟩ ++ ⟨#[45]⟩ ++ ⟨c.toArray⟩)) = Ending.returned (.string ⟨(padL y 4 ++ [45] ++ padL (m:Int) 2 ++ [45] ++ padL (d + 1) 2).toArray⟩)
 rw [← HEQ.out.1,← HEQ.out.2.1,← HEQ.out.2.2]
 have e:(⟨(a ++ [45] ++ b ++ [45] ++ c).toArray⟩:ByteArray) = ⟨a.toArray⟩ ++ ⟨#[45]⟩ ++ ⟨b.toArray⟩ ++ ⟨#[45]⟩ ++ ⟨c.toArray⟩:=by
  apply ByteArray.ext
  simp
 rw [e]
theorem zuk (n:Int) (h:n < -719162∨2932897≤n) (w:World) :
  Calls Tryz.prog 107 #[.int .i32 n] w fun e w'=>e = .returned (.tuple #[.int .i64 0,.int .i64 0,.int .i64 0])∧w' = w:=by
 have A1:=hdq (zbl 1 (by omega))
 rw [show Dy.ahead 1 = -719162 by decide] at A1
 have A2:=hdq (zbl 10000 (by omega))
 rw [show Dy.ahead 10000 = 2932897 by decide] at A2
 by_cases c:n < -719162
 ·clear h
  go_enter Tryz.func107,Tryz.ntmps107
  go_wp2_with fail
  refine (A1.out _).mono ?_
  rintro _ w1 ⟨rfl,rfl⟩
  go_wp2_with fail
  exact bodyPost_ret (v:=.tuple #[.int .i64 0,.int .i64 0,.int .i64 0]) (by simp [results,Tryz.results107,go_sem]) rfl ⟨rfl,by first | rfl | trivial⟩
 ·have c2:2932897≤n:=by omega
  clear h
  go_enter Tryz.func107,Tryz.ntmps107
  go_wp2_with fail
  refine (A1.out _).mono ?_
  rintro _ w1 ⟨rfl,rfl⟩
  go_wp2_with fail
  refine (A2.out _).mono ?_
  rintro _ w1 ⟨rfl,rfl⟩
  go_wp2_with fail
  exact bodyPost_ret (v:=.tuple #[.int .i64 0,.int .i64 0,.int .i64 0]) (by simp [results,Tryz.results107,go_sem]) rfl ⟨rfl,by first | rfl | trivial⟩
theorem zjl (n:Int) (h:n < -719162∨2932897≤n) (w:World) :
  Calls Tryz.prog 71 #[.int .i32 n] w fun e w'=>e = .returned (.string ByteArray.empty)∧w' = w:=by
 have D:=hdq (zuk n h w)
 clear h
 go_enter Tryz.func71,Tryz.ntmps71
 go_wp2_with fail
 refine D.out.mono ?_
 rintro _ w1 ⟨rfl,rfl⟩
 go_wp2
 go_ret
 exact ⟨rfl,rfl⟩
open Go.ChangeMaps (setBlock)
def badAm (x:Ln):Prop:=x.am = 0∨x.am = -9223372036854775808
instance (x:Ln):Decidable (badAm x):=by unfold badAm; infer_instance
def jcode (d:Int) (l:List Ln):Int :=
 if d < -719162∨2932897≤d then 13 else if l.length < 1∨60 < l.length then 2 else if ∃ x ∈ l,badAm x then 5 else if ∃ x ∈ l,tsum (l.map Ln.kv) x.ent ≠ 0 then 14 else 0
theorem dayT_ne (y m d:Int):(⟨(dayT y m d).toArray⟩:ByteArray).toList.isEmpty = false:=by
 rw [Go.ByteArray.toList_eq]
 unfold dayT
 simp
theorem znd (d:Int) (w:World) (hM:Glb5 w):∃ s:ByteArray,(Calls Tryz.prog 71 #[.int .i32 d] w fun e w'=>e = .returned (.string s)∧Below w.heap.size w w')∧s.toList.isEmpty = decide (d < -719162∨2932897≤d):=by
 by_cases c:d < -719162∨2932897≤d
 ·refine ⟨⟨#[]⟩,(zjl d c w).mono ?_,by rw [decide_eq_true c,Go.ByteArray.toList_eq]; rfl⟩
  rintro _ w' ⟨rfl,rfl⟩
  exact ⟨rfl,Below.refl _ _⟩
 ·obtain ⟨y,h1,h2,h3,h4⟩:=Dy.year_ex d (by omega)
  exact ⟨_,zdg d y ⟨h1,h2⟩ h3 h4 w hM,by rw [decide_eq_false c,dayT_ne]⟩
theorem tsum_bd (s:List (Nat × Int)) (c:Nat) (h:∀ x ∈ s,Wd.I64 x.2):-(9223372036854775808 * (s.length:Int))≤tsum s c∧tsum s c≤9223372036854775808 * (s.length:Int):=by
 induction s with
 | nil=>simp [tsum]
 | cons x s ih =>
  have h1:=ih (fun y hy=>h y (List.mem_cons_of_mem _ hy))
  have h2:=h x (List.mem_cons_self ..)
  unfold Wd.I64 at h2
  have e:tsum (x :: s) c = tsum s c + if x.1 = c then x.2 else 0:=by
   unfold tsum
   by_cases hx:x.1 = c
   ·simp [hx,List.filter_cons,Int.add_comm]
   ·simp [hx,List.filter_cons]
  rw [e,List.length_cons]
  push_cast
  split <;> omega
theorem zhw (v:Int) (hv:-9223372036854775808000≤v∧v≤9223372036854775808000):(Wd.hi v = 0∧Wd.lo v = 0) ↔ v = 0:=by
 constructor
 ·rintro ⟨h1,h2⟩
  unfold Wd.hi wrap64 at h1
  unfold Wd.lo at h2
  omega
 ·rintro rfl
  exact ⟨by unfold Wd.hi wrap64; omega,by unfold Wd.lo; omega⟩
set_option maxHeartbeats 4000000 in
set_option maxRecDepth 100000 in
theorem znw (d:Int) (a:Option Addr) (cap:Nat) (l:List Ln) (w:World) (hM:Glb5 w) (hl:l.length≤1000) (hok:∀ x ∈ l,x.ok) (hE:ElsAt ln 4 ln0 w a l) :
  Calls Tryz.prog 217 #[.agg #[.int .i32 d,.slice a l.length cap]] w fun e w'=>e = .returned (.int .i64 (jcode d l))∧Below w.heap.size w w':=by
 have HB1:=hdq (zaa (Below.refl _ w) (.cells #[.int .i32 d,.slice a l.length cap] 109))
 have R:=Row.new w #[.int .i32 d,.slice a l.length cap] 109
 have HE:=hdq hE
 have HOK:=hdq hok
 have HL:=hdq hl
 have HM:=hdq hM
 obtain ⟨code,hcode⟩:∃ c,c = jcode d l:=⟨_,rfl⟩
 rw [← hcode]
 have HCO:=hdq hcode
 clear hE hok hl hM hcode
 go_enter Tryz.func217,Tryz.ntmps217
 go_wp2_with fail
 generalize w.alloc (.cells #[.int .i32 d,.slice a l.length cap] 109) = w1 at *
 obtain ⟨g1,hg1⟩:∃ g,g = w.heap.size:=⟨_,rfl⟩
 rw [← hg1] at R
 rw [← hg1]
 clear hg1
 obtain ⟨s,hT,hs⟩:=znd d w1 (HM.out.below HB1.out)
 refine hT.mono ?_
 rintro _ w2 ⟨rfl,hb2⟩
 have HB2:=hdq (zab HB1.out hb2)
 have R2:=R.below hb2
 clear hT hb2 R
 by_cases c1:d < -719162∨2932897≤d
 ·have HC13:Hid (code = 13):=hdq (by rw [HCO.out]; unfold jcode; rw [if_pos c1])
  rw [decide_eq_true c1] at hs
  clear c1
  go_wp2_with fail
  go_ret
  exact ⟨by rw [HC13.out]; rfl,HB2.out⟩
 ·rw [decide_eq_false c1] at hs
  have HC1:=hdq c1
  have d1:w2.cell? ⟨g1,1,none⟩ = some (.slice a l.length cap):=R2.cell 1
  have d0:w2.cell? ⟨g1,0,none⟩ = some (.int .i32 d):=R2.cell 0
  clear c1
  by_cases c2:l.length < 1∨60 < l.length
  ·have HC2:=hdq c2
   have hc:Hid (code = 2):=hdq (by rw [HCO.out]; unfold jcode; rw [if_neg HC1.out,if_pos c2])
   by_cases c3:l.length < 1
   ·have f1:(l.length:Int) < 1:=by omega
    clear c2 c3
    go_wp2_with fail
    go_ret
    exact ⟨by rw [hc.out]; rfl,HB2.out⟩
   ·have f1:¬ (l.length:Int) < 1:=by omega
    have f2:(60:Int) < (l.length:Int):=by omega
    clear c2 c3
    go_wp2_with fail
    go_ret
    exact ⟨by rw [hc.out]; rfl,HB2.out⟩
  ·have HC2:=hdq c2
   have f1:¬ (l.length:Int) < 1:=by omega
   have f2:¬ (60:Int) < (l.length:Int):=by omega
   clear c2
   have HR2:=hdq R2
   have hk2:(0:Int)≤(l.length:Int):=by omega
   go_wp2_with fail
   clear d0 d1 R2
   go_loopw [24] (fun i wr=>∃ k:Nat,k≤l.length∧i = .int .i64 k∧(∀ j,j < k→¬ badAm (l.getD j ln0))∧Below w2.heap.size w2 wr) (fun i _=>l.length - (intOf i).toNat)
   case atStart=>exact ⟨0,by omega,rfl,fun j hj=>by omega,Below.refl _ _⟩
   case round =>
    obtain ⟨k,hk,rfl,hno,BB⟩:=hrel
    have HBB:=hdq BB
    have HNO:=hdq hno
    clear BB hno
    by_cases hlt:k < l.length
    ·have hk1:(0:Int)≤(k:Int):=by omega
     have hk2:(k:Int) < (l.length:Int):=by omega
     obtain ⟨bl,off,rfl,hcells⟩:∃ bl off,a = some ⟨bl,off,none⟩∧∀ i,i < l.length→w.rangeAt bl (off + i * 4) (ln (l.getD i ln0)):=by
      rcases HE.out with h | h
      ·exact absurd hlt (by rw [h]; simp)
      ·exact h
     have hx:=hcells k hlt
     have hmem:=zay (d:=ln0) hlt
     obtain ⟨x,hgx⟩:∃ x,x = l.getD k ln0:=⟨_,rfl⟩
     rw [← hgx] at hx hmem
     have HX:=hdq (And.intro hgx hmem)
     have RX:=zah (zah hx HB2.out) HBB.out
     have c0:wr.cell? ⟨bl,off + k * 4,none⟩ = some (.int .u32 (x.acc:Int)):=RX 0 _ rfl
     have c1:wr.cell? ⟨bl,off + k * 4 + 1,none⟩ = some (.int .u16 (x.ent:Int)):=RX 1 _ rfl
     have c2:wr.cell? ⟨bl,off + k * 4 + 2,none⟩ = some (.int .u16 (x.cnt:Int)):=RX 2 _ rfl
     have c3:wr.cell? ⟨bl,off + k * 4 + 3,none⟩ = some (.int .i64 x.am):=RX 3 _ rfl
     have HB4:=hdq (zab HBB.out (zaa (Below.refl _ wr) (.cells #[.int .u32 (x.acc:Int),.int .u16 (x.ent:Int),.int .u16 (x.cnt:Int),.int .i64 x.am] 142)))
     clear hcells hx hgx hmem RX
     by_cases hb:badAm x
     ·have hc:Hid (code = 5):=hdq (by rw [HCO.out]; unfold jcode; rw [if_neg HC1.out,if_neg HC2.out,if_pos ⟨x,HX.out.2,hb⟩])
      have HB:=hdq hb
      clear hb
      by_cases h0:x.am = 0
      ·have e0:(x.am == 0) = true:=by rw [beq_iff_eq]; exact h0
       clear h0
       go_wp2_with fail
       go_ret
       exact ⟨by rw [hc.out]; rfl,zab HB2.out HB4.out⟩
      ·have e0:(x.am == 0) = false:=by rw [beq_eq_false_iff_ne]; exact h0
       have e1:(x.am == -9223372036854775808) = true:=by rw [beq_iff_eq]; exact HB.out.resolve_left h0
       clear h0
       go_wp2_with fail
       go_ret
       exact ⟨by rw [hc.out]; rfl,zab HB2.out HB4.out⟩
     ·have HB:=hdq hb
      have e0:(x.am == 0) = false:=by rw [beq_eq_false_iff_ne]; exact fun e=>hb (.inl e)
      have e1:(x.am == -9223372036854775808) = false:=by rw [beq_eq_false_iff_ne]; exact fun e=>hb (.inr e)
      have ev:IntKind.i64.wrap ((k:Int) + 1) = ((k + 1:Nat):Int):=by have:=HL.out; rw [IntKind.wrap_i64]; omega
      clear hb
      go_wp2_with fail
      refine ⟨⟨k + 1,by omega,rfl,fun j hj=>?_,HB4.out⟩,by simp [intOf]; omega⟩
      by_cases e:j = k
      ·rw [e,← HX.out.1]; exact HB.out
      ·exact HNO.out j (by omega)
    ·obtain rfl:k = l.length:=by omega
     have hk0:¬ ((l.length:Int) < (l.length:Int)):=by omega
     have R3:=HR2.out.below HBB.out
     have d0:wr.cell? ⟨g1,0,none⟩ = some (.int .i32 d):=R3.cell 0
     have d1:wr.cell? ⟨g1,1,none⟩ = some (.slice a l.length cap):=R3.cell 1
     have HNB:Hid (¬ ∃ x ∈ l,badAm x):=hdq (by
      rintro ⟨x,hx,hb⟩
      obtain ⟨j,hj,e⟩:=List.getElem_of_mem hx
      refine HNO.out j hj ?_
      rw [List.getD_eq_getElem?_getD,List.getElem?_eq_getElem hj,e]
      exact hb)
     have HBR:=hdq (zab HB2.out HBB.out)
     have JS:=hdq (zjd d a cap l wr HL.out HOK.out (HE.out.below HBR.out))
     clear R3
     go_wp2_with fail
     refine JS.out.mono ?_
     rintro _ w3 ⟨b,rfl,hbw,hM3,hb3⟩
     have HB3:=hdq (zab HBR.out hb3)
     clear JS d0 d1 hb3
     obtain ⟨es,clock,hes,F,hsz,H1,H2⟩:=hM3
     have hbl:b < w3.heap.size:=by
      by_cases c:b < w3.heap.size
      ·exact c
      ·rw [Array.getElem?_eq_none (by omega)] at hes; cases hes
     have hrg:=run_range_map w3 293 56 302 b es clock Tryz.underlying293 hes
     have hb1:(w3.alloc (.mapIter (some b) clock #[] clock)).heap[b]? = some (.map es clock):=by rw [heap_alloc_old _ _ hbl]; exact hes
     have hr1:(w3.alloc (.mapIter (some b) clock #[] clock)).heap[w3.heap.size]? = some (.mapIter (some b) clock #[] clock):=heap_alloc_new w3 _
     have HF:=hdq F
     have HH:=hdq H1
     have H2H:=hdq H2
     have HBM:=hdq hb1
     have HRI:=hdq hr1
     have HB5:=hdq (zaa HB3.out (.mapIter (some b) clock #[] clock))
     clear F H1 H2 hes hb1 hr1 hsz
     go_wp2_with fail
     generalize w3.alloc (.mapIter (some b) clock #[] clock) = w4 at *
     obtain ⟨r,hrr⟩:∃ r,r = w3.heap.size:=⟨_,rfl⟩
     rw [← hrr] at HRI
     rw [← hrr]
     have hbr:b ≠ r:=by omega
     have hrw:w.heap.size≤r:=by rw [hrr]; exact HB3.out.size
     have HBRW:=hdq (And.intro hbr hrw)
     clear hrr hrg hbl hbw hbr hrw
     go_loopw [40] (fun v wr=>∃ (seen:Array Nat) (c0:Nat),wr.heap[r]? = some (.mapIter (some b) clock seen c0)∧clock≤c0∧wr.heap[b]? = some (.map es clock)∧(∀ x ∈ es.toList,seen.contains x.born = true→∀ v,x.val = wvalT v→Wd.hi v = 0∧Wd.lo v = 0)∧Below w.heap.size w wr) (fun _ wr=>(leftOf es (wr.iterSeen r)).size)
     case atStart=>exact ⟨#[],clock,HRI.out,Nat.le_refl _,HBM.out,fun x _ h=>by simp at h,HB5.out⟩
     case round =>
      obtain ⟨seen,c0,hr,hc0,hbm,hz,BB⟩:=hrel
      have HZ:=hdq hz
      have HBB2:=hdq BB
      clear hz BB
      have hbd:∀ c:Nat,-9223372036854775808000≤tsum (l.map Ln.kv) c∧tsum (l.map Ln.kv) c≤9223372036854775808000:=fun c=>by
       have h1:=tsum_bd (l.map Ln.kv) c (fun y hy=>by obtain ⟨x,hx,rfl⟩:=List.mem_map.1 hy; exact (HOK.out x hx).2)
       rw [List.length_map] at h1
       have:=HL.out
       omega
      have HBD:=hdq hbd
      clear hbd
      rcases run_next_at (P:=Tryz.prog) wr 0 r b clock c0 seen es clock hr hbm HF.out.stamped.1 hc0 with ⟨h0,hnext⟩ | ⟨x,hx,w6,hw6,hnext⟩
      ·have hall:=all_seen es seen h0
       have hc:Hid (code = 0):=hdq (by
        rw [HCO.out]
        unfold jcode
        rw [if_neg HC1.out,if_neg HC2.out,if_neg HNB.out,if_neg]
        rintro ⟨y,hy,hne⟩
        have hm:y.ent ∈ (l.map Ln.kv).map (·.1):=List.mem_map.2 ⟨Ln.kv y,List.mem_map.2 ⟨y,hy,rfl⟩,rfl⟩
        obtain ⟨x,hx,_,hv⟩:=H2H.out y.ent (tsum (l.map Ln.kv) y.ent) (by unfold tG; rw [if_pos hm])
        exact hne ((zhw _ (HBD.out y.ent)).1 (HZ.out x hx (hall x hx) _ hv)))
       clear hall h0 hr hbm
       go_wp2_with fail
       go_ret
       exact ⟨by rw [hc.out]; rfl,HBB2.out⟩
      ·obtain ⟨hxe,hxs⟩:=mem_left hx
       obtain ⟨c,cv,hck,hcv,hcg⟩:=HH.out x hxe
       have hlt:r < wr.heap.size:=by
        by_cases c:r < wr.heap.size
        ·exact c
        ·rw [Array.getElem?_eq_none (by omega)] at hr; cases hr
       have h2r:w6.heap = wr.heap:=by rcases hw6 with rfl | rfl <;> rfl
       have h2b:Below w.heap.size w w6:=by rcases hw6 with rfl | rfl; exact HBB2.out; exact zat HBB2.out
       have hr3:(setBlock w6 r (.mapIter (some b) clock (seen.push x.born) clock)).heap[r]? = some (.mapIter (some b) clock (seen.push x.born) clock):=by
        simp [setBlock,h2r,hlt]
       have hoth:∀ i,i ≠ r→(setBlock w6 r (.mapIter (some b) clock (seen.push x.born) clock)).heap[i]? = wr.heap[i]?:=fun i hi=>by
        simp [setBlock,h2r,Array.getElem?_setIfInBounds,Ne.symm hi]
       have hb3:(setBlock w6 r (.mapIter (some b) clock (seen.push x.born) clock)).heap[b]? = some (.map es clock):=(hoth b HBRW.out.1).trans hbm
       have hB3:Below w.heap.size w (setBlock w6 r (.mapIter (some b) clock (seen.push x.born) clock)):=⟨h2b.os,h2b.tape,h2b.output,by simp [setBlock]; exact h2b.size,fun i hi=>by rw [hoth i (by have:=HBRW.out.2; omega),← h2r]; exact h2b.block i hi⟩
       have hent:=run_entry_at (P:=Tryz.prog) _ r b clock seen es clock x hr3 hb3 hxe HF.out.stamped.2.1
       have hsh:=left_shrinks es seen x hx
       have HIS:=hdq (show wr.iterSeen r = seen by unfold World.iterSeen; rw [hr])
       generalize setBlock w6 r (.mapIter (some b) clock (seen.push x.born) clock) = w7 at *
       rw [hcv] at hent
       unfold wvalT at hent
       have HR7:=hdq hr3
       have HB7:=hdq hb3
       have HBL7:=hdq hB3
       have HCV:=hdq (And.intro hcv (And.intro hcg hck))
       have HXE:=hdq hxe
       have HSH:=hdq hsh
       have hr7:r < w7.heap.size:=by
        by_cases c:r < w7.heap.size
        ·exact c
        ·rw [Array.getElem?_eq_none (by omega)] at hr3; cases hr3
       have hb7:b < w7.heap.size:=by
        by_cases c:b < w7.heap.size
        ·exact c
        ·rw [Array.getElem?_eq_none (by omega)] at hb3; cases hb3
       have HLT:=hdq (And.intro hr7 hb7)
       clear hw6 h2r h2b hoth hlt hr hbm hr3 hb3 hB3 hxe hxs hsh hck hcv hcg hr7 hb7
       obtain ⟨hh,hhh⟩:∃ a,a = Wd.hi cv:=⟨_,rfl⟩
       obtain ⟨ll,hll⟩:∃ a,a = Wd.lo cv:=⟨_,rfl⟩
       rw [← hhh,← hll] at hent
       have HHL:=hdq (And.intro hhh hll)
       clear hhh hll
       go_wp2_with fail
       ·rename_i q1 q2
        have hb2:=zaa (Below.refl _ w7) (.cells #[.int .i64 hh,.int .u64 ll] 302)
        rw [q1,q2] at hb2
        refine ⟨⟨seen.push x.born,clock,(hb2.block r HLT.out.1).trans HR7.out,Nat.le_refl _,(hb2.block b HLT.out.2).trans HB7.out,fun y hy hse v hv=>?_,zab HBL7.out hb2⟩,?_⟩
        ·rw [contains_push,Bool.or_eq_true] at hse
         rcases hse with hse | hse
         ·exact HZ.out y hy hse v hv
         ·have e:=born_inj HF.out.stamped.2.1 hy HXE.out (beq_iff_eq.1 hse)
          subst e
          have h2:=hv.symm.trans HCV.out.1
          unfold wvalT at h2
          injection h2 with h2
          simp at h2
          rw [h2.1,h2.2,← HHL.out.1,← HHL.out.2]
          exact ⟨q1,q2⟩
        ·have e2:(w7.alloc (.cells #[.int .i64 0,.int .u64 0] 302)).iterSeen r = seen.push x.born:=by
          unfold World.iterSeen
          rw [hb2.block r HLT.out.1,HR7.out]
         rw [e2,HIS.out]
         exact HSH.out
       all_goals
        rename_i q1
        have hc:code = 14:=by
         have hm:=(zpj (l.map Ln.kv) c).1 ⟨cv,HCV.out.2.1⟩
         have hv:cv = tsum (l.map Ln.kv) c:=by
          have h:=HCV.out.2.1
          unfold tG at h
          rw [if_pos hm] at h
          exact (Option.some.inj h).symm
         obtain ⟨kv,hkv,hkc⟩:=List.mem_map.1 hm
         obtain ⟨y,hy,rfl⟩:=List.mem_map.1 hkv
         have hex:∃ x ∈ l,tsum (l.map Ln.kv) x.ent ≠ 0:=⟨y,hy,fun e=>by
          have hkc:y.ent = c:=hkc
          rw [hkc,← hv] at e
          have h0:=(zhw cv (by rw [hv]; exact HBD.out c)).2 e
          first
           | exact q1 (HHL.out.1.trans h0.1)
           | exact q1 (HHL.out.2.trans h0.2)⟩
         rw [HCO.out]
         unfold jcode
         rw [if_neg HC1.out,if_neg HC2.out,if_neg HNB.out,if_pos hex]
        go_ret
        exact ⟨by rw [hc]; rfl,zab HBL7.out (zaa (Below.refl _ w7) _)⟩
end Go.Proofs.YtlpdfglbdijkoaaGreatDoor