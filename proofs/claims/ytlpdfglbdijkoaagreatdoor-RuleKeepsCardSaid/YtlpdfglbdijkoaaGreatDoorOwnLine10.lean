/-
  Own texts, several in one (Line10, Lines10, MakeB, Light).
-/
import Derived.Test.YtlpdfglbdijkoaaGreatDoorOwnSortU
import Derived.Test.YtlpdfglbdijkoaaGreatDoorMrg9
namespace Go.Proofs.YtlpdfglbdijkoaaGreatDoor
open Go.RowKit
set_option linter.unusedVariables false
set_option linter.unusedSimpArgs false
structure L10 where
 acc:Nat
 ent:Nat
 cnt:Nat
 amt:Int
def l10 (x:L10):List Value:=[.int .u8 (x.acc:Int),.int .u8 (x.ent:Int),.int .u8 (x.cnt:Int),.int .i64 x.amt]
def l100:L10:=⟨0,0,0,0⟩
def L10.ok (x:L10):Prop:=x.acc≤255∧x.ent≤255∧x.cnt≤255∧-9223372036854775808≤x.amt∧x.amt≤9223372036854775807
theorem MapIs.same {κ ν:Type} {P:Program} {k:TypeId} {enc:κ→Value} {vl:ν→Value} {b n:Nat} {G:κ→Option ν} {w w':World} (h:MapIs w P k enc vl b n G) (e:w'.heap[b]? = w.heap[b]?):MapIs w' P k enc vl b n G:=by
 obtain ⟨es,clock,h1,h2⟩:=h
 exact ⟨es,clock,e.trans h1,h2⟩
def restAt (c:List Ac) (u:List Int) (s:List (Nat × Int)) (i:Nat):List Ln :=
 if tsum s (u.getD i 0).toNat = 0 then [] else [⟨(c.getD (i % c.length) ac0).code,(u.getD i 0).toNat,0,-tsum s (u.getD i 0).toNat⟩]
def restOf (c:List Ac) (u:List Int) (s:List (Nat × Int)):Nat→List Ln
 | 0=>[]
 | j + 1=>restOf c u s j ++ restAt c u s j
structure J10 where
 later:Nat
 lines:List L10
 p:Option Addr
 c:Nat
def j10 (x:J10):List Value:=[.int .u8 (x.later:Int),.slice x.p x.lines.length x.c]
def j100:J10:=⟨0,[],none,0⟩
def J10.ok (w:World) (x:J10):Prop:=x.later≤255∧x.lines.length≤8∧(∀ y ∈ x.lines,y.ok)∧ElsAt l10 4 l100 w x.p x.lines
structure Jn where
 day:Int
 lines:List Ln
 v:Value
def JsOk (B:Nat) (js:List Jn) (w:World):Prop:=∀ x ∈ js,x.v.oneCell' = true∧w.ownsRow B 142 4 x.v x.lines.length (x.lines.flatMap ln)
theorem FrOk.mono {B B':Nat} {c:List Ac} {u k:List Int} {w:World} {cv uv kv:Value} (h:FrOk B c u k w cv uv kv) (hb:B'≤B):FrOk B' c u k w cv uv kv:=⟨ownMono h.1 hb,ownMono h.2.1 hb,ownMono h.2.2 hb⟩
theorem JsOk.below {B:Nat} {js:List Jn} {w w':World} (h:JsOk B js w) (hb:Below w.heap.size w w'):JsOk B js w':=fun x hx=>⟨(h x hx).1,zai (h x hx).2 hb⟩
theorem JsOk.stored {B g:Nat} {js:List Jn} {w w':World} {cs:Array Value} {t:TypeId} (h:JsOk B js w) (R:Row w g cs t) (ht:t ≠ 142) (hs:Stored w g w'):JsOk B js w':=fun x hx=>⟨(h x hx).1,zak (h x hx).2 hs (zbz (h x hx).2 R ht)⟩
theorem zla (l:List A6) (h:l.length≤20):0 < (chartOf l).length∧(chartOf l).length≤1000:=by
 unfold chartOf
 by_cases c:l.length = 0
 ·rw [if_pos c]; simp
 ·rw [if_neg c,zkn]; omega
theorem zmz (l:List Int) (h:l.length≤8):0 < (unitsOf l).length∧(unitsOf l).length≤1000∧∀ z ∈ unitsOf l,0≤z∧z < 65536:=by
 unfold unitsOf
 have hp:=List.mergeSort_perm (mk7 l) (fun a b=>decide (a≤b))
 by_cases c:(mk7 l).length = 0
 ·rw [if_pos c]; simp
 ·rw [if_neg c]
  have h1:(srt (mk7 l)).length = (mk7 l).length:=hp.length_eq
  have h2:=zqx l
  refine ⟨by omega,by omega,fun z hz=>?_⟩
  have:=(zja l).2 z (hp.subset hz)
  omega
set_option maxHeartbeats 8000000 in
set_option maxRecDepth 100000 in
theorem zrh (a:Option Addr) (cap n:Nat) (pu:Option Addr) (cu nu:Nat) (first:Int) (pl:Option Addr) (cl nl:Nat) (aj:Option Addr) (cj:Nat) (lj:List J10) (w:World) (hJ:ElsAt j10 2 j100 w aj lj) (hm:lj.length≤9223372036854775807) :
  Calls Tryz.prog 9 #[.agg #[.slice a n cap,.slice pu nu cu,.int .i16 first,.slice pl nl cl,.slice aj lj.length cj]] w fun e w'=>∃ r,e = .returned r∧((r = .bool true∧(∀ x ∈ lj,x.lines.length≤8)∧n≤20∧nu≤8∧nl≤8∧lj.length≤12)∨r = .bool false)∧Below w.heap.size w w':=by
 have HJ:=hdq hJ
 have HM:=hdq hm
 have BX:=zaa (Below.refl _ w) (.cells #[.slice a n cap,.slice pu nu cu,.int .i16 first,.slice pl nl cl,.slice aj lj.length cj] 28)
 have RX:=Row.new w #[.slice a n cap,.slice pu nu cu,.int .i16 first,.slice pl nl cl,.slice aj lj.length cj] 28
 clear hJ hm
 go_enter Tryz.func9,Tryz.ntmps9
 go_wp2_with fail
 generalize w.alloc (.cells #[.slice a n cap,.slice pu nu cu,.int .i16 first,.slice pl nl cl,.slice aj lj.length cj] 28) = w0 at *
 have HRX:=hdq RX
 have HBX:=hdq BX
 clear RX BX
 go_loopw [8] (fun iv wr=>∃ i:Nat,i≤lj.length∧iv = .int .i64 (i:Int)∧(∀ x ∈ lj.take i,x.lines.length≤8)∧Row wr w.heap.size #[.slice a n cap,.slice pu nu cu,.int .i16 first,.slice pl nl cl,.slice aj lj.length cj] 28∧Below w.heap.size w wr) (fun iv _=>lj.length - (intOf iv).toNat)
 case atStart=>exact ⟨0,by omega,rfl,by simp,HRX.out,HBX.out⟩
 case round =>
  obtain ⟨i,hi,rfl,hall,hR,BB⟩:=hrel
  have HA:=hdq hall
  have HR:=hdq hR
  have HB:=hdq BB
  clear hall hR BB HRX HBX
  by_cases hlt:i < lj.length
  ·have i0:(0:Int)≤(i:Int):=by omega
   have i1:(i:Int) < (lj.length:Int):=by omega
   obtain ⟨bl,off,rfl,hcc⟩:∃ b o,aj = some ⟨b,o,none⟩∧∀ i,i < lj.length→w.rangeAt b (o + i * 2) (j10 (lj.getD i j100)):=by
    rcases HJ.out with h | h
    ·rw [h] at hlt; simp at hlt
    ·exact h
   have ck:=zah (hcc i hlt) HB.out
   have htk:lj.take (i + 1) = lj.take i ++ [lj.getD i j100]:=by rw [List.take_succ_eq_append_getElem hlt]; simp [List.getD,hlt]
   obtain ⟨x,hxe⟩:∃ x,x = lj.getD i j100:=⟨_,rfl⟩
   rw [← hxe] at ck htk
   have HT:=hdq (And.intro htk hlt)
   have e0:wr.cell? ⟨bl,off + i * 2,none⟩ = some (.int .u8 (x.later:Int)):=ck 0 _ rfl
   have e1:wr.cell? ⟨bl,off + i * 2 + 1,none⟩ = some (.slice x.p x.lines.length x.c):=ck 1 _ rfl
   have ev:IntKind.i64.wrap ((i:Int) + 1) = (i:Int) + 1:=by rw [IntKind.wrap_i64]; have:=HM.out; omega
   clear hcc ck htk hxe hlt hi
   by_cases h8:x.lines.length≤8
   ·have k0:¬ (8:Int) < (x.lines.length:Int):=by omega
    have H8:=hdq h8
    clear h8
    go_wp2_with fail
    refine ⟨⟨i + 1,by have:=HT.out.2; omega,by simp,fun y hy=>?_,HR.out.alloc _,zaa HB.out _⟩,by have:=HT.out.2; simp [intOf]; omega⟩
    rw [HT.out.1] at hy
    rcases List.mem_append.1 hy with hy | hy
    ·exact HA.out y hy
    ·rw [List.mem_singleton.1 hy]; exact H8.out
   ·have k0:(8:Int) < (x.lines.length:Int):=by omega
    clear h8
    go_wp2_with fail
    go_ret
    exact ⟨_,rfl,.inr rfl,zaa HB.out _⟩
  ·have i1:¬ (i:Int) < (lj.length:Int):=by omega
   obtain rfl:i = lj.length:=by omega
   have r0:wr.cell? ⟨w.heap.size,0,none⟩ = some (.slice a n cap):=HR.out.cell 0
   have r1:wr.cell? ⟨w.heap.size,1,none⟩ = some (.slice pu nu cu):=HR.out.cell 1
   have r3:wr.cell? ⟨w.heap.size,3,none⟩ = some (.slice pl nl cl):=HR.out.cell 3
   have r4:wr.cell? ⟨w.heap.size,4,none⟩ = some (.slice aj lj.length cj):=HR.out.cell 4
   have hall:=HA.out
   rw [List.take_length] at hall
   have HAL:=hdq hall
   clear hlt hi hall HA HR
   by_cases h1:n≤20
   ·have k1:(n:Int)≤20:=by omega
    by_cases h2:nu≤8
    ·have k2:(nu:Int)≤8:=by omega
     by_cases h3:nl≤8
     ·have k3:(nl:Int)≤8:=by omega
      by_cases h4:lj.length≤12
      ·have k4:(lj.length:Int)≤12:=by omega
       have HH:=hdq (And.intro h1 (And.intro h2 (And.intro h3 h4)))
       clear h1 h2 h3 h4
       go_wp2_with fail
       go_ret
       exact ⟨_,rfl,.inl ⟨rfl,HAL.out,HH.out⟩,HB.out⟩
      ·have k4:¬ (lj.length:Int)≤12:=by omega
       clear h1 h2 h3 h4
       go_wp2_with fail
       go_ret
       exact ⟨_,rfl,.inr rfl,HB.out⟩
     ·have k3:¬ (nl:Int)≤8:=by omega
      clear h1 h2 h3
      go_wp2_with fail
      go_ret
      exact ⟨_,rfl,.inr rfl,HB.out⟩
    ·have k2:¬ (nu:Int)≤8:=by omega
     clear h1 h2
     go_wp2_with fail
     go_ret
     exact ⟨_,rfl,.inr rfl,HB.out⟩
   ·have k1:¬ (n:Int)≤20:=by omega
    clear h1
    go_wp2_with fail
    go_ret
    exact ⟨_,rfl,.inr rfl,HB.out⟩
end Go.Proofs.YtlpdfglbdijkoaaGreatDoor