/-
  Own texts, several in one (Kit, Glb, Laid, Math1).
-/
import Derived.WalkKit
import Derived.WalkSpells
import Derived.WalkLawsBesides
import Derived.Laws.Rows
import Derived.Lib.Hide
import Derived.Test.YtlpdfglbdijkoaaGreatDoorProg
import Derived.Test.YtlpdfglbdijkoaaGreatDoorShelf
import Derived.Lib.LaidTab
import Derived.Test.YtlpdfglbdijkoaaGreatDoorRows
import Derived.LaidSub
import Derived.LaidMore
import Derived.LaidHandle
import Derived.Deep.DeepWitnessRowRef
import Derived.Laws.Bits64
import Derived.Laws.BitsAllLaws
namespace Go.Proofs.YtlpdfglbdijkoaaGreatDoor
open Go.RowKit
set_option linter.unusedVariables false
set_option linter.unusedSimpArgs false
def Row (w:World) (g:Nat) (cs:Array Value) (t:TypeId):Prop:=w.heap[g]? = some (.cells cs t (0,0))
theorem Row.cell {w:World} {g:Nat} {cs:Array Value} {t:TypeId} (h:Row w g cs t) (i:Nat):w.cell? ⟨g,i,none⟩ = cs[i]?:=cell_of_row w g i cs t _ h
theorem Row.frozen {w:World} {g:Nat} {cs:Array Value} {t:TypeId} (h:Row w g cs t) (i:Nat):w.frozen? ⟨g,i,none⟩ = false:=frozen_of_row w g i cs t h
theorem Row.lt {w:World} {g:Nat} {cs:Array Value} {t:TypeId} (h:Row w g cs t):g < w.heap.size:=by
 by_cases hl:g < w.heap.size
 ·exact hl
 ·unfold Row at h; rw [Array.getElem?_eq_none (by omega)] at h; cases h
theorem Row.below {w w':World} {g:Nat} {cs:Array Value} {t:TypeId} (h:Row w g cs t) (hb:Below w.heap.size w w'):Row w' g cs t:=(hb.block g h.lt).trans h
theorem Row.new (w:World) (cs:Array Value) (t:TypeId):Row (w.alloc (.cells cs t)) w.heap.size cs t:=Go.heap_alloc_new w _
theorem Row.new' (w:World) (cs:Array Value) (t:TypeId) {g:Nat} (h:g = w.heap.size):Row (w.alloc (.cells cs t)) g cs t:=h ▸ Go.heap_alloc_new w _
theorem Row.alloc {w:World} {g:Nat} {cs:Array Value} {t:TypeId} (h:Row w g cs t) (o:Obj):Row (w.alloc o) g cs t:=by have h1:=h.lt; unfold Row at *; show (w.heap.push o)[g]? = _; rw [Array.getElem?_push,if_neg (Nat.ne_of_lt h1)]; exact h
theorem Row.drew {w:World} {g:Nat} {cs:Array Value} {t:TypeId} (h:Row w g cs t):Row w.drew g cs t:=h
theorem Row.drewN {w:World} {g:Nat} {cs:Array Value} {t:TypeId} (h:Row w g cs t) (n:Nat):Row (w.drewN n) g cs t:=h
theorem Row.set {w:World} {g:Nat} {cs:Array Value} {t:TypeId} (h:Row w g cs t) (i:Nat) (v:Value):Row (w.setCell ⟨g,i,none⟩ v) g (cs.setIfInBounds i v) t:=heap_setCell_same w g i cs t v h
theorem Row.other {w:World} {g:Nat} {cs:Array Value} {t:TypeId} (h:Row w g cs t) (a:Addr) (hn:g ≠ a.block) (v:Value):Row (w.setCell a v) g cs t:=(heap_setCell_other w a g v hn).trans h
theorem bcell {W w1:World} (hb:Below W.heap.size W w1):(∀ b o,b < W.heap.size→w1.cell? ⟨b,o,none⟩ = W.cell? ⟨b,o,none⟩)∧(∀ b o,b < W.heap.size→w1.frozen? ⟨b,o,none⟩ = W.frozen? ⟨b,o,none⟩) :=
 ⟨fun b o h=>hb.cell (p:=⟨b,o,none⟩) h,fun b o h=>hb.frozen (p:=⟨b,o,none⟩) h⟩
theorem zab {w W w':World} (h1:Below w.heap.size w W) (h2:Below W.heap.size W w'):Below w.heap.size w w':=h1.trans (h2.mono h1.size)
theorem zae {W w':World} {a:Addr} {v:Value} (h:W.cell? a = some v) (h2:Below W.heap.size W w'):w'.cell? a = some v:=(h2.cell (block_lt_of_cell h)).trans h
theorem zcu {W w':World} {a:Addr} {v:Value} (h:W.cell? a = some v) (hf:W.frozen? a = false) (h2:Below W.heap.size W w'):w'.frozen? a = false:=(h2.frozen (block_lt_of_cell h)).trans hf
theorem zaa {w W:World} (h1:Below w.heap.size w W) (o:Obj):Below w.heap.size w (W.alloc o):=h1.alloc h1.size o
theorem zar {w W:World} {g:Nat} (h1:Below w.heap.size w W) (hg:w.heap.size≤g) (i:Nat) (v:Value):Below w.heap.size w (W.setCell ⟨g,i,none⟩ v):=h1.setCell hg v
theorem zkc {k:IntKind} {a b:Int} (h:a = b):Ending.returned (.int k a) = .returned (.int k b):=by rw [h]
theorem zau {P:Program} {fn:Func} {p:Tmp} {ty:TypeId} (h:fn.results = #[.cell p ty]) (tmps:Array Value) {w:World} {g:Nat} {t:TypeId} {cs:Array Value} (d:TypeDesc)
  (hr:Row w g cs t) (hp:tmps.getD p undef = .pointer (some ⟨g,0,none⟩))
  (hu:P.underlying ty = some d) (hd:(match d with | .struct _ | .array _ _=>true | _=>false) = true) (hi:(P.info? ty).map (·.size) = some cs.size) :
  (results fn tmps).run P w = .ok (.agg cs) w :=
 results_cell_row h tmps _ g t cs (0,0) d hp hr hu hd hi
theorem hdq {p:Prop} (h:p):Hid p:=Lib.hid h
theorem zdb {P:Program} {w w':World} {name:String} {cs:Array Value} (h:w.var? P name = some cs) (hb:Below w.heap.size w w'):w'.var? P name = some cs:=by
 unfold World.var? at *
 cases hg:P.globalNamed name with
 | none=>rw [hg] at h; cases h
 | some g =>
  rw [hg] at h
  simp only [Option.bind_some] at h ⊢
  have hlt:g < w.heap.size:=by
   by_cases c:g < w.heap.size
   ·exact c
   ·rw [Array.getElem?_eq_none (by omega)] at h; cases h
  rw [hb.block g hlt]
  exact h
theorem zfc {P:Program} {w:World} {name:String} {cs:Array Value} (h:w.var? P name = some cs) {g:Nat} (hg:P.globalNamed name = some g) (i:Nat):w.cell? ⟨g,i,none⟩ = cs[i]?:=by
 unfold World.var? at h
 rw [hg] at h
 simp only [Option.bind_some] at h
 cases hh:w.heap[g]? with
 | none=>rw [hh] at h; cases h
 | some o =>
  rw [hh] at h
  cases o with
  | cells c t f=>simp only [Option.some.injEq] at h; subst h; simp [World.cell?,hh]
  | _=>cases h
structure Glb (w:World):Prop where
 pow : Lib.TabIs Tryz.prog w "internal/strconv.uint64pow10" .u64 Lib.pow10Tab
 maxlen:∃ m,w.cell? ⟨2,0,none⟩ = some (.int .i64 m)
 synt : ∃ t p, w.var? Tryz.prog "strconv.ErrSyntax" = some #[.iface t p]
 rang : ∃ t p, w.var? Tryz.prog "strconv.ErrRange" = some #[.iface t p]
theorem Glb.below {w w':World} (h:Glb w) (hb:Below w.heap.size w w'):Glb w':=by
 obtain ⟨h1,⟨m,h2⟩,⟨t,p,h3⟩,⟨t',p',h4⟩⟩:=h
 exact ⟨zdb h1 hb,⟨m,zae h2 hb⟩,⟨t,p,zdb h3 hb⟩,⟨t',p',zdb h4 hb⟩⟩
theorem Glb.alloc {w:World} (h:Glb w) (o:Obj):Glb (w.alloc o):=h.below ((Below.refl _ _).alloc (Nat.le_refl _) _)
theorem Glb.drewN {w:World} (h:Glb w) (n:Nat):Glb (w.drewN n):=h.below ⟨rfl,rfl,rfl,Nat.le_refl _,fun _ _=>rfl⟩
open Go.ChangeShapes Go.WideShapes Go.ChangeAt Go.RowKit
noncomputable def laidL : List (String × DataW Unit) := [("math/bits.deBruijn32tab", Rows.laid_math_bits_deBruijn32tab), ("math/bits.deBruijn64tab", Rows.laid_math_bits_deBruijn64tab), ("internal/strconv.uint64pow10", Rows.laid_internal_strconv_uint64pow10), ("strconv.ErrRange", Rows.laid_strconv_ErrRange), ("strconv.ErrSyntax", Rows.laid_strconv_ErrSyntax)]
theorem zua {W : World} (h : laidMetH Tryz.prog laidL W) : Lib.TabIs Tryz.prog W "internal/strconv.uint64pow10" .u64 Lib.pow10Tab := by
 have h1 := h.filter (fun x => x.1 == "internal/strconv.uint64pow10")
 have e : laidL.filter (fun x => x.1 == "internal/strconv.uint64pow10") = [("internal/strconv.uint64pow10", Lib.tabData .u64 Lib.pow10Tab)] := by kernel_rfl
 rw [e] at h1
 exact Lib.tabIs_of_head (g:=3) (by kernel_rfl) (by kernel_rfl) Tryz.underlying287 Tryz.underlying210 (by kernel_rfl) (by kernel_rfl) h1
theorem zpp {W:World} {name tn:String} {d:DataW Unit} {g:Nat} {ti:TypeId} {ms:Array (String × TypeId)} (h:laidMet Tryz.prog [(name,.iface tn d)] W) (hg:Tryz.prog.globalNamed name = some g)
  (hty:(Tryz.prog.globals[g]?).map (·.type) = some ti) (hi:Tryz.prog.underlying ti = some (.interface ms)):∃ t p,W.var? Tryz.prog name = some #[.iface t p]:=by
 obtain ⟨ps,⟨g',t',cs,fuel,p,q,hg',ht',hvar,hd,_,_⟩,_⟩:=h
 obtain rfl:=Option.some.inj (hg.symm.trans hg')
 obtain rfl:=Option.some.inj (hty.symm.trans ht')
 obtain ⟨f',u,v,e,_,_⟩:=iface_of_trod hi hd
 have e2:cs = #[.iface u v]:=by
  cases cs with
  | mk l =>
   have e3:l = [.iface u v]:=e
   rw [e3]
 exact ⟨u,v,hvar.trans (congrArg some e2)⟩
theorem zrj {W : World} (h : laidMetH Tryz.prog laidL W) : ∃ t p, W.var? Tryz.prog "strconv.ErrSyntax" = some #[.iface t p] := by
 have h1 := h.filter (fun x => x.1 == "strconv.ErrSyntax")
 have e : laidL.filter (fun x => x.1 == "strconv.ErrSyntax") = [("strconv.ErrSyntax", Rows.laid_strconv_ErrSyntax)] := by kernel_rfl
 rw [e] at h1
 exact zpp h1 (g:=8) (by kernel_rfl) (by kernel_rfl) Tryz.underlying240
theorem zrk {W : World} (h : laidMetH Tryz.prog laidL W) : ∃ t p, W.var? Tryz.prog "strconv.ErrRange" = some #[.iface t p] := by
 have h1 := h.filter (fun x => x.1 == "strconv.ErrRange")
 have e : laidL.filter (fun x => x.1 == "strconv.ErrRange") = [("strconv.ErrRange", Rows.laid_strconv_ErrRange)] := by kernel_rfl
 rw [e] at h1
 exact zpp h1 (g:=9) (by kernel_rfl) (by kernel_rfl) Tryz.underlying240
theorem glb_of {W:World} (h:laidMetH Tryz.prog laidL W) (hs:W.ShapedOpen Tryz.prog):Glb W :=
 ⟨zua h,cell_of_shapedOpen_int (zero:=#[.int .i64 0]) (t:=3) hs (of_decide_eq_true (by kernel_rfl)) (by kernel_rfl) rfl (by kernel_rfl) (by kernel_rfl) Tryz.underlying3,zrj h,zrk h⟩
noncomputable def wd (os:Os):World:=World.doorLaid Tryz.prog 400 os
theorem zrx (os:Os) (args:Array Value):((wd os).forCall (fun _ _=>0) ⟨#[],args,[]⟩).variablesRefB Tryz.prog = true:=by kernel_rfl
theorem zry (os:Os) (args:Array Value):(((wd os).forCall (fun _ _=>0) ⟨#[],args,[]⟩).heap.toList.drop Tryz.prog.globals.size).take ((begin Tryz.prog (fun _ _=>0) default).world.heap.size - Tryz.prog.globals.size) =
   (begin Tryz.prog (fun _ _=>0) default).world.heap.toList.drop Tryz.prog.globals.size:=by kernel_rfl
namespace Wd
def lo (n:Int):Int:=n % 18446744073709551616
def hi (n:Int):Int:=wrap64 (n / 18446744073709551616)
def I64 (n:Int):Prop:=-9223372036854775808≤n∧n≤9223372036854775807
def U64 (n:Int):Prop:=0≤n∧n≤18446744073709551615
def num (h l:Int):Int:=h * 18446744073709551616 + l
theorem lo_bd (n:Int):U64 (lo n):=by unfold lo U64; omega
theorem hi_bd (n:Int):I64 (hi n):=by unfold hi I64 wrap64; omega
theorem add_lo (a b:Int):IntKind.u64.wrap (lo a + lo b) = lo (a + b):=by rw [IntKind.wrap_u64]; unfold lo; omega
theorem add_hi1 (a b:Int) (h:IntKind.u64.wrap (lo a + lo b) < lo a):wrap64 (IntKind.u64.wrap (IntKind.u64.wrap (IntKind.u64.wrap (hi a) + IntKind.u64.wrap (hi b)) + 1)) = hi (a + b):=by
 simp only [IntKind.wrap_u64] at *; unfold lo at h; unfold hi wrap64; omega
theorem add_hi0 (a b:Int) (h:lo a≤IntKind.u64.wrap (lo a + lo b)):wrap64 (IntKind.u64.wrap (IntKind.u64.wrap (hi a) + IntKind.u64.wrap (hi b))) = hi (a + b):=by
 simp only [IntKind.wrap_u64] at *; unfold lo at h; unfold hi wrap64; omega
theorem of_hi (n:Int) (h:I64 n):n / 9223372036854775808 = hi n:=by unfold I64 at h; unfold hi wrap64; omega
theorem of_lo (n:Int):IntKind.u64.wrap n = lo n:=by rw [IntKind.wrap_u64]; rfl
theorem not_u64 (x:Int) (h:U64 x):bits .xor .u64 18446744073709551615 x = 18446744073709551615 - x:=by
 unfold U64 at h
 obtain ⟨n,rfl⟩:=Int.eq_ofNat_of_zero_le h.1
 have e:=bits_xor_u64_nat 18446744073709551615 n (by omega) (by omega)
 rw [show ((18446744073709551615:Nat):Int) = 18446744073709551615 from rfl] at e
 rw [e]
 have hx:18446744073709551615 ^^^ n = 18446744073709551615 - n:=by
  have h1:n < 2 ^ 64:=by omega
  have h2:=BitVec.toNat_not (x:=BitVec.ofNat 64 n)
  rw [BitVec.not_def,BitVec.toNat_xor,BitVec.toNat_ofNat,BitVec.toNat_allOnes,Nat.mod_eq_of_lt h1] at h2
  simpa using h2
 rw [hx]; omega
theorem not_hi (a:Int):-1 - hi a = hi (-1 - a):=by unfold hi wrap64; omega
theorem not_lo (a:Int):18446744073709551615 - lo a = lo (-1 - a):=by unfold lo; omega
theorem not_u64' (x:Int) (h:U64 x):bits .xor .u64 IntKind.u64.max x = 18446744073709551615 - x:=not_u64 x h
theorem not_i64 (x:Int) (h:I64 x):bits .xor .i64 (-1) x = -1 - x:=by
 unfold I64 at h
 show IntKind.i64.wrap ((BitVec.ofInt 64 (-1) ^^^ BitVec.ofInt 64 x).toNat:Int) = _
 have e:BitVec.ofInt 64 (-1) = BitVec.allOnes 64:=by decide
 rw [e,← BitVec.not_def,BitVec.toNat_not,IntKind.wrap_i64,BitVec.toNat_ofInt]
 omega
theorem zhs (x:Int) (h:U64 x):bits .and .u64 x 4294967295 = x % 4294967296:=by
 unfold U64 at h
 have e:=u64_and x 4294967295 h.1 (by omega) (by omega) (by omega)
 rw [e,show (4294967295:Int).toNat = 2 ^ 32 - 1 from rfl,Nat.and_two_pow_sub_one_eq_mod]
 omega
theorem or_low (x y:Int) (h0:0≤y) (h1:y < 4294967296):bits .or .u64 (x * 4294967296 % 18446744073709551616) y = (x * 4294967296 + y) % 18446744073709551616:=by
 have e:=u64_or (x * 4294967296 % 18446744073709551616) y (by omega) (by omega) (by omega) (by omega)
 rw [e]
 have h2:(x * 4294967296 % 18446744073709551616).toNat = 2 ^ 32 * (x % 4294967296).toNat:=by omega
 have h3:=Nat.two_pow_add_eq_or_of_lt (i:=32) (b:=y.toNat) (by omega) (x % 4294967296).toNat
 rw [h2,← h3]; omega
theorem zmc (a b:Int) (ha:0≤a) (hb:0≤b) (ha':a≤4294967295) (hb':b≤4294967295):0≤a * b∧a * b≤18446744065119617025:=by
 refine ⟨Int.mul_nonneg ha hb,?_⟩
 have:=Int.mul_le_mul ha' hb' hb (by omega:(0:Int)≤4294967295)
 omega
theorem zqt (a b:Int):a * b = (a / 4294967296) * (b / 4294967296) * 18446744073709551616 + ((a / 4294967296) * (b % 4294967296) + (a % 4294967296) * (b / 4294967296)) * 4294967296 + (a % 4294967296) * (b % 4294967296):=by
 have ea:a = a / 4294967296 * 4294967296 + a % 4294967296:=by omega
 have eb:b = b / 4294967296 * 4294967296 + b % 4294967296:=by omega
 generalize a / 4294967296 = a1 at *
 generalize a % 4294967296 = a0 at *
 generalize b / 4294967296 = b1 at *
 generalize b % 4294967296 = b0 at *
 subst ea eb
 simp only [Int.add_mul,Int.mul_add]
 have h1:a1 * 4294967296 * (b1 * 4294967296) = a1 * b1 * 18446744073709551616:=by
  rw [Int.mul_assoc,Int.mul_left_comm 4294967296,← Int.mul_assoc]; omega
 have h2:a0 * (b1 * 4294967296) = a0 * b1 * 4294967296:=by rw [Int.mul_assoc]
 have h3:a1 * 4294967296 * b0 = a1 * b0 * 4294967296:=by rw [Int.mul_assoc,Int.mul_comm 4294967296,← Int.mul_assoc]
 omega
def mx (a b:Int):Int:=IntKind.u64.wrap (bits .and .u64 a 4294967295 * bits .and .u64 b 4294967295)
def my (a b:Int):Int:=IntKind.u64.wrap (IntKind.u64.wrap (a / 4294967296 * bits .and .u64 b 4294967295) + mx a b / 4294967296)
def mz (a b:Int):Int:=IntKind.u64.wrap (IntKind.u64.wrap (bits .and .u64 a 4294967295 * (b / 4294967296)) + bits .and .u64 (my a b) 4294967295)
def mhi (a b:Int):Int:=wrap64 (IntKind.u64.wrap (IntKind.u64.wrap (IntKind.u64.wrap (a / 4294967296 * (b / 4294967296)) + my a b / 4294967296) + mz a b / 4294967296))
def mlo (a b:Int):Int:=bits .or .u64 (IntKind.u64.wrap (mz a b * 4294967296)) (bits .and .u64 (mx a b) 4294967295)
theorem mul_halves (a b:Int) (ha:U64 a) (hb:U64 b):mhi a b = hi (a * b)∧mlo a b = lo (a * b):=by
 have p00:=zmc (a % 4294967296) (b % 4294967296) (by omega) (by omega) (by omega) (by omega)
 have hab:=zqt a b
 unfold U64 at ha hb
 have p10:=zmc (a / 4294967296) (b % 4294967296) (by omega) (by omega) (by omega) (by omega)
 have p01:=zmc (a % 4294967296) (b / 4294967296) (by omega) (by omega) (by omega) (by omega)
 have p11:=zmc (a / 4294967296) (b / 4294967296) (by omega) (by omega) (by omega) (by omega)
 have aA:=zhs a ha
 have aB:=zhs b hb
 have ex:mx a b = a % 4294967296 * (b % 4294967296):=by unfold mx; rw [aA,aB,IntKind.wrap_u64]; omega
 have ey:my a b = a / 4294967296 * (b % 4294967296) + mx a b / 4294967296:=by unfold my; rw [aB,IntKind.wrap_u64,IntKind.wrap_u64]; rw [ex]; omega
 have ez:mz a b = a % 4294967296 * (b / 4294967296) + my a b % 4294967296:=by
  unfold mz; rw [aA,zhs (my a b) (by unfold U64; rw [ey,ex]; omega),IntKind.wrap_u64,IntKind.wrap_u64]; omega
 have el:mlo a b = (mz a b * 4294967296 + mx a b % 4294967296) % 18446744073709551616:=by
  unfold mlo; rw [zhs (mx a b) (by unfold U64; rw [ex]; omega),IntKind.wrap_u64,or_low _ _ (by omega) (by omega)]
 unfold mhi
 rw [el]
 simp only [IntKind.wrap_u64]
 generalize mx a b = x at *
 generalize my a b = y at *
 generalize mz a b = z at *
 rw [hab]
 generalize a / 4294967296 * (b / 4294967296) = q11 at *
 generalize a / 4294967296 * (b % 4294967296) = q10 at *
 generalize a % 4294967296 * (b / 4294967296) = q01 at *
 generalize a % 4294967296 * (b % 4294967296) = q00 at *
 clear hab aA aB
 unfold hi lo wrap64
 constructor <;> omega
theorem and_one (x:Nat) (h:x < 18446744073709551616):bits .and .u64 (x:Int) 1 = ((x % 2:Nat):Int):=by
 have e:=u64_and_nat x 1 h (by omega)
 rw [show ((1:Nat):Int) = 1 from rfl] at e
 rw [e,Nat.and_one_is_mod]
theorem zva (r b:Nat) (hr:r < 9223372036854775808) (hb:b < 2):bits .or .u64 ((r * 2:Nat):Int) (b:Int) = ((2 * r + b:Nat):Int):=by
 have e:=u64_or_nat (r * 2) b (by omega) (by omega)
 rw [e]
 have h3:=Nat.two_pow_add_eq_or_of_lt (i:=1) (b:=b) (by omega) r
 rw [show r * 2 = 2 ^ 1 * r by omega,← h3]
theorem hi_nat (a:Nat) (h:a < 170141183460469231731687303715884105728):hi (a:Int) = ((a / 18446744073709551616:Nat):Int):=by unfold hi wrap64; omega
theorem lo_nat (a:Nat):lo (a:Int) = ((a % 18446744073709551616:Nat):Int):=by unfold lo; omega
theorem zjf (a k:Nat):a / 2 ^ k = 2 * (a / 2 ^ (k + 1)) + a / 2 ^ k % 2:=by
 rw [Nat.pow_succ,← Nat.div_div_eq_div_mul]; omega
theorem low_bit (a k:Nat) (h:k < 64):a % 18446744073709551616 / 2 ^ k % 2 = a / 2 ^ k % 2:=by
 have e:18446744073709551616 = 2 ^ k * (2 * 2 ^ (63 - k)):=by
  rw [← Nat.mul_assoc,Nat.mul_comm (2 ^ k) 2,Nat.mul_assoc,← Nat.pow_add,← Nat.pow_succ',show (k + (63 - k)).succ = 64 by omega]
 rw [e,Nat.mod_mul_right_div_self,Nat.mod_mul_right_mod]
theorem zps (x d b:Nat) (hd:0 < d) (hb:b < 2) (h:d≤2 * (x % d) + b):(2 * x + b) / d = 2 * (x / d) + 1∧(2 * x + b) % d = 2 * (x % d) + b - d:=by
 rw [Nat.div_mod_unique hd]
 have e:=Nat.div_add_mod x d
 have hl:=Nat.mod_lt x hd
 refine ⟨?_,by omega⟩
 rw [Nat.mul_add,Nat.mul_left_comm]; omega
theorem zpt (x d b:Nat) (hd:0 < d) (h:2 * (x % d) + b < d):(2 * x + b) / d = 2 * (x / d)∧(2 * x + b) % d = 2 * (x % d) + b:=by
 rw [Nat.div_mod_unique hd]
 have e:=Nat.div_add_mod x d
 refine ⟨?_,by omega⟩
 rw [Nat.mul_left_comm]; omega
theorem quo_bd (a d k:Nat) (hd:0 < d) (h:a < d * 18446744073709551616) (hk:0 < k):a / 2 ^ k / d < 9223372036854775808:=by
 have h1:a / d < 18446744073709551616:=Nat.div_lt_of_lt_mul h
 rw [Nat.div_div_eq_div_mul,Nat.mul_comm,← Nat.div_div_eq_div_mul]
 have h2:a / d / 2 ^ k≤a / d / 2:=Nat.div_le_div_left (by have:=Nat.pow_le_pow_right (n:=2) (by omega) hk; simpa using this) (by omega)
 omega
theorem round_bits (a j R lo:Nat) (hlo:a % 18446744073709551616 = lo) (hj:j < 64) (hR:R < 9223372036854775808) :
  bits .or .u64 ((R:Int) * 2) (bits .and .u64 ((lo:Int) / 2 ^ j) 1) = ((2 * R + a / 2 ^ j % 2:Nat):Int):=by
 have h1:((lo:Int) / 2 ^ j) = ((lo / 2 ^ j:Nat):Int):=by simp
 have h2:lo / 2 ^ j≤lo:=Nat.div_le_self _ _
 rw [h1,and_one _ (by omega),← hlo,low_bit a j hj]
 exact zva R _ hR (by omega)
theorem wrap_diff (a b:Nat) (h:b≤a) (ha:a < 18446744073709551616):IntKind.u64.wrap ((a:Int) - (b:Int)) = ((a - b:Nat):Int):=by rw [IntKind.wrap_u64]; omega
theorem or_one (q:Nat) (hq:q < 9223372036854775808):bits .or .u64 ((q:Int) * 2) 1 = ((2 * q + 1:Nat):Int):=zva q 1 hq (by omega)
theorem quo_round1 (a d j Q R:Nat) (hd:0 < d) (hQ:a / 2 ^ (j + 1) / d = Q) (hR:a / 2 ^ (j + 1) % d = R) (h:d≤2 * R + a / 2 ^ j % 2):a / 2 ^ j / d = 2 * Q + 1∧a / 2 ^ j % d = 2 * R + a / 2 ^ j % 2 - d:=by
 have e:=zjf a j
 have hb:a / 2 ^ j % 2 < 2:=by omega
 generalize a / 2 ^ j % 2 = b at *
 rw [e,← hQ,← hR]; rw [← hR] at h
 exact zps _ d b hd hb h
theorem quo_round0 (a d j Q R:Nat) (hd:0 < d) (hQ:a / 2 ^ (j + 1) / d = Q) (hR:a / 2 ^ (j + 1) % d = R) (h:2 * R + a / 2 ^ j % 2 < d):a / 2 ^ j / d = 2 * Q∧a / 2 ^ j % d = 2 * R + a / 2 ^ j % 2:=by
 have e:=zjf a j
 generalize a / 2 ^ j % 2 = b at *
 rw [e,← hQ,← hR]; rw [← hR] at h
 exact zpt _ d b hd h
end Wd
end Go.Proofs.YtlpdfglbdijkoaaGreatDoor