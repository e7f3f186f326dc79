import Derived.Test.YtlpdfglbdijkoaaGreatDoorMrg17
namespace Go.Proofs.YtlpdfglbdijkoaaGreatDoor
open Go.RowKit
set_option linter.unusedVariables false
set_option linter.unusedSimpArgs false
theorem own_at {w:World} {B n:Nat} {e:TypeId} {v:Value} {l:List Lx.Tk} (h:w.ownsRow B e 5 v n (tks l)) (hl:0 < l.length):∃ g cap,v = .slice (some ⟨g,0,none⟩) l.length cap∧∀ i j x,i < l.length→(tk (l.getD i Lx.tk0))[j]? = some x→w.cell? ⟨g,i * 5 + j,none⟩ = some x:=by
 obtain ⟨h1,h2⟩:=h
 have hl':l.length = n:=by rw [zpf] at h1; omega
 rcases h2 with ⟨rfl,rfl⟩ | ⟨g,cap,cur,rfl,_,hh,_,_,hs,ht⟩
 ·omega
 ·refine ⟨g,cap,by rw [hl'],fun i j v hi hv=>?_⟩
  have hj:j < 5:=by
   by_cases c:j < 5
   ·exact c
   ·rw [List.getElem?_eq_none (by rw [zfk]; omega)] at hv; cases hv
  have hg:=zpg l i hi j v hv
  rw [← ht,List.getElem?_take,if_pos (by omega)] at hg
  rw [cell_of_row w g _ cur e _ hh]
  simpa using hg
def l12:List Lx.Tk:=[⟨1,[116,111],0,0,0⟩,⟨2,[49,50],12,0,3⟩,⟨5,[59],0,0,5⟩,⟨0,[],0,0,6⟩]
theorem split12:lexSplit [116,111,32,49,50,59] = .ok l12:=by
 show Lx.split Dy.parse [116,111,32,49,50,59] 0 = _
 generalize Dy.parse = pd
 kernel_rfl
set_option maxHeartbeats 1000000 in
theorem awake12 (w:World) (hG:Glb5 w):Calls Tryz.prog 83 #[] w fun e w'=>e = .returned (.bool true)∧Below w.heap.size w w':=by
 have HG:=hdq hG
 have hS:=zig ⟨#[116,111,32,49,50,59]⟩ [116,111,32,49,50,59] rfl w hG
 rw [split12] at hS
 have HS:=hdq hS
 clear hG hS
 go_enter Tryz.func83,Tryz.ntmps83
 go_wp2_with fail
 refine HS.out.mono ?_
 rintro _ w1 ⟨⟨r,rfl,v,rfl,hown⟩,hb⟩
 have HB:=hdq hb
 obtain ⟨g,cap,rfl,hc⟩:=own_at hown (by show 0 < 4; omega)
 have c1:w1.cell? ⟨g,7,none⟩ = some (.int .i64 12):=hc 1 2 _ (by show 1 < 4; omega) rfl
 have c2:w1.cell? ⟨g,11,none⟩ = some (.string ⟨#[59]⟩):=hc 2 1 _ (by show 2 < 4; omega) rfl
 have c3:w1.cell? ⟨g,15,none⟩ = some (.int .i64 0):=hc 3 0 _ (by show 3 < 4; omega) rfl
 have hlen:l12.length = 4:=rfl
 rw [hlen]
 clear hb hown hc HS hlen
 go_wp2_with fail
 refine (awake11 w1 (HG.out.below HB.out)).mono ?_
 rintro _ w5 ⟨rfl,hb5⟩
 go_wp2
 go_ret
 exact ⟨rfl,zab HB.out hb5⟩
end Go.Proofs.YtlpdfglbdijkoaaGreatDoor