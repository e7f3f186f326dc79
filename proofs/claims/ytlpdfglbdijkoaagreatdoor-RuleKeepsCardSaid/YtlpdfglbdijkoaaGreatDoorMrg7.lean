/-
  Own texts, several in one (ShareE, Equal, MoneyP, Awake1).
-/
import Derived.Test.YtlpdfglbdijkoaaGreatDoorMrg6
import Derived.Test.YtlpdfglbdijkoaaGreatDoorMrg4
import Derived.Deep.QuietTactic
import Derived.Deep.RegionHeld3
import Derived.Test.YtlpdfglbdijkoaaGreatDoorMrg3
import Derived.Test.YtlpdfglbdijkoaaGreatDoorMrg2
namespace Go.Proofs.YtlpdfglbdijkoaaGreatDoor
open Go.RowKit
set_option linter.unusedVariables false
set_option linter.unusedSimpArgs false
set_option maxHeartbeats 1000000 in
theorem zoc (b1 o1 k1 b2 o2 k2 n:Nat) (zs:List Int) (w:World) (h1:Nums w b1 o1 zs) (h2:Nums w b2 o2 zs) (hl:zs.length = n) (hn:n≤1000) :
  Calls Tryz.prog 253 #[.slice (some ⟨b1,o1,none⟩) n k1,.slice (some ⟨b2,o2,none⟩) n k2] w fun e w'=>e = .returned (.bool true)∧Below w.heap.size w w':=by
 have H1:=hdq h1
 have H2:=hdq h2
 clear h1 h2
 go_enter Tryz.func253,Tryz.ntmps253
 go_wp2_with fail
 go_loopw [13] (fun i wr=>∃ k:Nat,k≤n∧i = .int .i64 k∧Below w.heap.size w wr) (fun i _=>n - (intOf i).toNat)
 case atStart=>exact ⟨0,by omega,rfl,Below.refl _ _⟩
 case round =>
  obtain ⟨k,hk,rfl,BB⟩:=hrel
  by_cases hlt:k < n
  ·have c1:wr.cell? ⟨b1,o1 + k,none⟩ = some (.int .i64 (zs.getD k 0)):=(BB.cell (block_lt_of_cell (H1.out k (by omega)))).trans (H1.out k (by omega))
   have c2:wr.cell? ⟨b2,o2 + k,none⟩ = some (.int .i64 (zs.getD k 0)):=(BB.cell (block_lt_of_cell (H2.out k (by omega)))).trans (H2.out k (by omega))
   have hk1:(0:Int)≤(k:Int):=by omega
   have hk2:(k:Int) < (n:Int):=by omega
   generalize zs.getD k 0 = z at *
   go_wp2_with fail
   go_region_held3 (fun w'=>Below w.heap.size w w'∧w'.cell? ⟨b1,o1 + k,none⟩ = some (.int .i64 z)∧w'.cell? ⟨b2,o2 + k,none⟩ = some (.int .i64 z)) (refine ⟨?_,?_,?_⟩ <;> first | assumption | exact zat BB | exact c1 | exact c2) (fail)
   rename_i hHeld
   have BB2:=hHeld.1
   go_wp2
   go_roundw
   case rel=>exact ⟨k + 1,by omega,by go_num,by assumption⟩
   case measure=>simp [intOf]; omega
  ·have hk0:n = k:=by omega
   subst hk0
   go_wp2
   go_ret
   exact ⟨rfl,BB⟩
theorem zod (a1 a2:Option Addr) (k1 k2 n:Nat) (zs:List Int) (w:World) (h1:IsNums w a1 n zs) (h2:IsNums w a2 n zs) (hn:n≤1000) :
  Calls Tryz.prog 253 #[.slice a1 n k1,.slice a2 n k2] w fun e w'=>e = .returned (.bool true)∧Below w.heap.size w w':=by
 obtain ⟨hl,_,h1⟩:=h1
 obtain ⟨_,_,h2⟩:=h2
 rcases h1 with rfl | ⟨b1,o1,rfl,h1⟩
 ·go_enter Tryz.func253,Tryz.ntmps253
  go_wp2_with fail
  refine wp_loop_rounds 1 ?_
  rw [rounds_succ]
  go_wp2
  go_ret
  exact ⟨rfl,Below.refl _ _⟩
 ·rcases h2 with rfl | ⟨b2,o2,rfl,h2⟩
  ·go_enter Tryz.func253,Tryz.ntmps253
   go_wp2_with fail
   refine wp_loop_rounds 1 ?_
   rw [rounds_succ]
   go_wp2
   go_ret
   exact ⟨rfl,Below.refl _ _⟩
  ·exact zoc b1 o1 k1 b2 o2 k2 n zs w h1 h2 hl hn
def Mn.end_:Option Int→Value
 | some n=>.tuple #[.int .i64 n,.bool true]
 | none=>.tuple #[.int .i64 0,.bool false]
theorem toList_data (s:ByteArray):s.toList = s.data.toList:=Go.ByteArray.toList_eq s
set_option maxHeartbeats 1000000 in
theorem zqe (s:ByteArray) (hs:s.size < 4294967281) (w:World) (hG:Glb w) :
  Calls Tryz.prog 259 #[.string s] w fun e w'=>e = .returned (Mn.end_ (Mn.parse s.data.toList))∧Below w.heap.size w w':=by
 have hp:∃ x,x = Mn.parse s.data.toList:=⟨_,rfl⟩
 obtain ⟨x,hx⟩:=hp
 rw [← hx]
 have HX:=hdq hx
 clear hx
 have hl:=Mn.cut_len s.data.toList [46]
 have hsz:s.data.toList.length = s.size:=Array.length_toList
 have c1:=hdq (fun w hG=>cut_any s ⟨#[46]⟩ w hG hs)
 unfold Mn.parse at HX
 rw [show ((⟨#[46]⟩:ByteArray).data.toList) = [46] from rfl] at c1
 rcases hcut:Lib.cut s.data.toList [46] with ⟨A,B,ok⟩
 rw [hcut] at c1 HX hl
 simp only at c1 HX hl
 have hA:A.length < 4294967281:=by omega
 have hB:B.length < 4294967281:=by omega
 clear hl hcut
 cases ok with
 | false =>
  have hx:x = none:=by have:=HX.out; simpa using this
  subst hx
  clear HX
  go_enter Tryz.func259,Tryz.ntmps259
  go_wp2_with fail
  refine (c1.out _ hG).mono ?_
  rintro _ w1 ⟨rfl,hb1⟩
  go_wp2
  go_ret2
  exact ⟨rfl,hb1⟩
 | true =>
  by_cases h2:B.length = 2
  ·have h3:((B.length:Int) != 2) = false:=by rw [bne_eq_false_iff_eq]; omega
   have HX2:x = Mn.read s.data.toList (Lib.parseIntB 64 (A ++ B)):=by have:=HX.out; simpa [h2] using this
   clear HX
   have hdat:((⟨A.toArray⟩:ByteArray) ++ ⟨B.toArray⟩).data.toList = A ++ B:=by simp
   have hsz2:((⟨A.toArray⟩:ByteArray) ++ ⟨B.toArray⟩).size≤281474976710656:=by
    have:((⟨A.toArray⟩:ByteArray) ++ ⟨B.toArray⟩).size = A.length + B.length:=by rw [ByteArray.size_append]; rfl
    omega
   by_cases hok:∃ v,Lib.parseIntB 64 (A ++ B) = .ok v
   ·obtain ⟨v,hv⟩:=hok
    rw [hv] at HX2
    simp only [Mn.read] at HX2
    have hI:=Mn.parseInt_bd hv
    have pi:=hdq (fun w hG=>zkh _ v w hG hsz2 (by rw [hdat]; exact hv))
    have tx:=hdq (zlj v hI)
    by_cases he:Mn.text v = s.data.toList
    ·have hx:x = some v:=by rw [HX2,if_pos he]
     subst hx
     have es:s = ⟨(Mn.text v).toArray⟩:=by rw [he]
     subst es
     clear he
     generalize Mn.text v = tv at *
     clear hv HX2 hdat hsz2 hsz hs
     go_enter Tryz.func259,Tryz.ntmps259
     go_wp2_with fail
     refine (c1.out _ hG).mono ?_
     rintro _ w1 ⟨rfl,hb1⟩
     go_wp2_with fail
     refine (pi.out _ (hG.below hb1)).mono ?_
     rintro _ w2 ⟨rfl,hb2⟩
     have hB2:=zab hb1 hb2
     go_wp2_with fail
     refine (tx.out _ (hG.below hB2)).mono ?_
     rintro _ w3 ⟨rfl,hb3⟩
     have hB3:=zab hB2 hb3
     go_wp2
     go_ret2
     exact ⟨rfl,hB3⟩
    ·have hx:x = none:=by rw [HX2,if_neg he]
     subst hx
     have he2:(Mn.text v == s.toList) = false:=by rw [beq_eq_false_iff_ne,toList_data]; exact he
     clear he
     generalize Mn.text v = tv at *
     clear hv HX2 hdat hsz2 hsz hs
     go_enter Tryz.func259,Tryz.ntmps259
     go_wp2_with fail
     refine (c1.out _ hG).mono ?_
     rintro _ w1 ⟨rfl,hb1⟩
     go_wp2_with fail
     refine (pi.out _ (hG.below hb1)).mono ?_
     rintro _ w2 ⟨rfl,hb2⟩
     have hB2:=zab hb1 hb2
     go_wp2_with fail
     refine (tx.out _ (hG.below hB2)).mono ?_
     rintro _ w3 ⟨rfl,hb3⟩
     have hB3:=zab hB2 hb3
     go_wp2
     go_ret2
     exact ⟨rfl,hB3⟩
   ·have hx:x = none:=by
     rw [HX2]
     rcases hq:Lib.parseIntB 64 (A ++ B) with v | _ | _
     ·exact absurd ⟨v,hq⟩ hok
     ·rfl
     ·rfl
    subst hx
    have pe:=hdq (fun w hG=>ziv _ w hG hsz2 (by rw [hdat]; exact fun v hv=>hok ⟨v,hv⟩))
    clear HX2 hok hdat hsz2 hsz hs
    go_enter Tryz.func259,Tryz.ntmps259
    go_wp2_with fail
    refine (c1.out _ hG).mono ?_
    rintro _ w1 ⟨rfl,hb1⟩
    go_wp2_with fail
    refine (pe.out _ (hG.below hb1)).mono ?_
    rintro _ w2 ⟨⟨n,t,y,rfl⟩,hb2⟩
    have hB2:=zab hb1 hb2
    go_wp2
    go_ret2
    exact ⟨rfl,hB2⟩
  ·have hx:x = none:=by have:=HX.out; simpa [h2] using this
   subst hx
   clear HX
   have h3:((B.length:Int) != 2) = true:=by rw [bne_iff_ne]; omega
   go_enter Tryz.func259,Tryz.ntmps259
   go_wp2_with fail
   refine (c1.out _ hG).mono ?_
   rintro _ w1 ⟨rfl,hb1⟩
   go_wp2
   go_ret2
   exact ⟨rfl,hb1⟩
set_option maxHeartbeats 400000 in
theorem awake1 (w:World) :
  Calls Tryz.prog 261 #[] w fun e w'=>e = .returned (.bool true)∧Below w.heap.size w w':=by
 have e1:Wd.hi (-1 * 5) = -1:=by unfold Wd.hi wrap64; rfl
 have e2:Wd.lo (-1 * 5) = 18446744073709551611:=by unfold Wd.lo; rfl
 have e3:Wd.hi (-1) = -1:=by unfold Wd.hi wrap64; rfl
 have e4:Wd.lo (-1) = 18446744073709551615:=by unfold Wd.lo; rfl
 go_enter Tryz.func261,Tryz.ntmps261
 go_wp2_with fail
 refine (zkm (-1) 5 _ (by unfold Wd.I64; omega) (by unfold Wd.I64; omega)).mono ?_
 rintro e w1 ⟨rfl,hb1⟩
 rw [e1,e2]
 go_wp2_with fail
 refine (zqj (-1) (by unfold Wd.I64; omega) _).mono ?_
 rintro e w2 ⟨rfl,hb2⟩
 rw [e3,e4]
 go_wp2
 go_ret
 exact ⟨rfl,zab hb1 hb2⟩
end Go.Proofs.YtlpdfglbdijkoaaGreatDoor