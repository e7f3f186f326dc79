/-
  Own texts, several in one (Awake4, Key, JSums).
-/
import Derived.Test.YtbhjkddjgikaiaaGreatDoorMrg4
import Derived.Test.YtbhjkddjgikaiaaGreatDoorMrg10
import Derived.Deep.QuietTactic
import Derived.BigQuiet
import Derived.Laws.Bits64b
import Derived.Test.YtbhjkddjgikaiaaGreatDoorMrg6
import Derived.Maps.Keyed
import Derived.Carry
namespace Go.Proofs.YtbhjkddjgikaiaaGreatDoor
open Go.RowKit
set_option linter.unusedVariables false
set_option linter.unusedSimpArgs false

theorem of_1970 (w : World) (hM : Glb5 w) :
    Calls Tryz.prog 192 #[.int .i64 1970, .int .i64 1, .int .i64 1] w fun e w' => e = .returned (.tuple #[.int .i32 0, .bool true]) ∧ w' = w := by
  have L1 := Lib.hid (long_any 1970 1 (by omega) (by omega) (by omega))
  rw [show Dy.long 1970 1 = 31 by decide] at L1
  have A1 := Lib.hid (ahead_any 1970 (by omega))
  rw [show Dy.ahead 1970 = 0 by decide] at A1
  go_enter Tryz.func192, Tryz.ntmps192
  go_wp2_with fail
  refine (L1.out _ hM).mono ?_
  rintro _ w1 ⟨rfl, rfl⟩
  go_wp2_with fail
  refine (A1.out _).mono ?_
  rintro _ w1 ⟨rfl, rfl⟩
  go_wp2_with fail
  refine wp_loop_rounds 1 ?_
  rw [rounds_succ]
  go_wp2
  go_ret2
  exact ⟨rfl, rfl⟩
theorem of_2000 (w : World) (hM : Glb5 w) :
    Calls Tryz.prog 192 #[.int .i64 2000, .int .i64 2, .int .i64 29] w fun e w' => e = .returned (.tuple #[.int .i32 11016, .bool true]) ∧ w' = w := by
  have L1 := Lib.hid (long_any 2000 2 (by omega) (by omega) (by omega))
  rw [show Dy.long 2000 2 = 29 by decide] at L1
  have L2 := Lib.hid (long_any 2000 1 (by omega) (by omega) (by omega))
  rw [show Dy.long 2000 1 = 31 by decide] at L2
  have A1 := Lib.hid (ahead_any 2000 (by omega))
  rw [show Dy.ahead 2000 = 10957 by decide] at A1
  go_enter Tryz.func192, Tryz.ntmps192
  go_wp2_with fail
  refine (L1.out _ hM).mono ?_
  rintro _ w1 ⟨rfl, rfl⟩
  go_wp2_with fail
  refine (A1.out _).mono ?_
  rintro _ w1 ⟨rfl, rfl⟩
  go_wp2_with fail
  refine wp_loop_rounds 2 ?_
  rw [rounds_succ]
  go_wp2_with fail
  refine (L2.out _ hM).mono ?_
  rintro _ w1 ⟨rfl, rfl⟩
  go_wp2_with fail
  rw [rounds_succ]
  go_wp2
  go_ret2
  exact ⟨rfl, rfl⟩
theorem date_2000 (w : World) (hM : Glb5 w) :
    Calls Tryz.prog 104 #[.int .i32 11016] w fun e w' => e = .returned (.tuple #[.int .i64 2000, .int .i64 2, .int .i64 29]) ∧ w' = w := by
  have L1 := Lib.hid (long_any 2000 2 (by omega) (by omega) (by omega))
  rw [show Dy.long 2000 2 = 29 by decide] at L1
  have L2 := Lib.hid (long_any 2000 1 (by omega) (by omega) (by omega))
  rw [show Dy.long 2000 1 = 31 by decide] at L2
  have A1 := Lib.hid (ahead_any 1 (by omega))
  rw [show Dy.ahead 1 = -719162 by decide] at A1
  have A2 := Lib.hid (ahead_any 10000 (by omega))
  rw [show Dy.ahead 10000 = 2932897 by decide] at A2
  have A3 := Lib.hid (ahead_any 2000 (by omega))
  rw [show Dy.ahead 2000 = 10957 by decide] at A3
  have A4 := Lib.hid (ahead_any 2001 (by omega))
  rw [show Dy.ahead 2001 = 11323 by decide] at A4
  go_enter Tryz.func104, Tryz.ntmps104
  go_wp2_with fail
  refine (A1.out _).mono ?_
  rintro _ w1 ⟨rfl, rfl⟩
  go_wp2_with fail
  refine (A2.out _).mono ?_
  rintro _ w1 ⟨rfl, rfl⟩
  go_wp2_with fail
  refine wp_loop_rounds 1 ?_
  rw [rounds_succ]
  go_wp2_with fail
  refine (A3.out _).mono ?_
  rintro _ w1 ⟨rfl, rfl⟩
  go_wp2_with fail
  refine wp_loop_rounds 1 ?_
  rw [rounds_succ]
  go_wp2_with fail
  refine (A4.out _).mono ?_
  rintro _ w1 ⟨rfl, rfl⟩
  go_wp2_with fail
  refine (A3.out _).mono ?_
  rintro _ w1 ⟨rfl, rfl⟩
  go_wp2_with fail
  refine wp_loop_rounds 2 ?_
  rw [rounds_succ]
  go_wp2_with fail
  refine (L2.out _ hM).mono ?_
  rintro _ w1 ⟨rfl, rfl⟩
  go_wp2_with fail
  refine (L2.out _ hM).mono ?_
  rintro _ w1 ⟨rfl, rfl⟩
  go_wp2_with fail
  rw [rounds_succ]
  go_wp2_with fail
  refine (L1.out _ hM).mono ?_
  rintro _ w1 ⟨rfl, rfl⟩
  go_wp2
  go_ret3
  exact ⟨rfl, rfl⟩
theorem itoa_any (n : Int) (h : Wd.I64 n) (w : World) (hG : Glb w) :
    Calls Tryz.prog 23 #[.int .i64 n] w fun e w' => e = .returned (.string ⟨(Lib.itoa n).toArray⟩) ∧ Below w.heap.size w w' := by
  unfold Wd.I64 at h
  refine (Any.strconv_Itoa Tryz.laysM171 n h.1 h.2 w hG.pow).mono ?_
  rintro _ w' ⟨rfl, k, os, rfl⟩
  exact ⟨rfl, Lib.below_grow w.heap.size w (Nat.le_refl _) k os⟩
set_option maxRecDepth 100000 in
theorem repeat0 (s : ByteArray) (w : World) : Calls Tryz.prog 22 #[.string s, .int .i64 0] w fun e w' => e = .returned (.string ⟨#[]⟩) ∧ w' = w := by
  go_enter Tryz.func22, Tryz.ntmps22
  go_wp2
  go_ret
  exact ⟨rfl, rfl⟩
set_option maxRecDepth 100000 in
theorem repeat1 (s : ByteArray) (w : World) : Calls Tryz.prog 22 #[.string s, .int .i64 1] w fun e w' => e = .returned (.string s) ∧ w' = w := by
  go_enter Tryz.func22, Tryz.ntmps22
  go_wp2
  go_ret
  exact ⟨rfl, rfl⟩
theorem pad_2000 (w : World) (hG : Glb w) : Calls Tryz.prog 105 #[.int .i64 2000, .int .i64 4] w fun e w' => e = .returned (.string ⟨#[50, 48, 48, 48]⟩) ∧ Below w.heap.size w w' := by
  have I := Lib.hid (itoa_any 2000 (by unfold Wd.I64; omega))
  rw [show Lib.itoa 2000 = [50, 48, 48, 48] by decide +kernel] at I
  go_enter Tryz.func105, Tryz.ntmps105
  go_wp2_with fail
  refine (I.out _ hG).mono ?_
  rintro _ w1 ⟨rfl, hb⟩
  go_wp2_with fail
  refine (repeat0 _ _).mono ?_
  rintro _ w2 ⟨rfl, rfl⟩
  go_wp2
  go_ret
  exact ⟨ret_str (by decide), hb⟩
theorem pad_2 (w : World) (hG : Glb w) : Calls Tryz.prog 105 #[.int .i64 2, .int .i64 2] w fun e w' => e = .returned (.string ⟨#[48, 50]⟩) ∧ Below w.heap.size w w' := by
  have I := Lib.hid (itoa_any 2 (by unfold Wd.I64; omega))
  rw [show Lib.itoa 2 = [50] by decide +kernel] at I
  go_enter Tryz.func105, Tryz.ntmps105
  go_wp2_with fail
  refine (I.out _ hG).mono ?_
  rintro _ w1 ⟨rfl, hb⟩
  go_wp2_with fail
  refine (repeat1 _ _).mono ?_
  rintro _ w2 ⟨rfl, rfl⟩
  go_wp2
  go_ret
  exact ⟨ret_str (by decide), hb⟩
theorem pad_29 (w : World) (hG : Glb w) : Calls Tryz.prog 105 #[.int .i64 29, .int .i64 2] w fun e w' => e = .returned (.string ⟨#[50, 57]⟩) ∧ Below w.heap.size w w' := by
  have I := Lib.hid (itoa_any 29 (by unfold Wd.I64; omega))
  rw [show Lib.itoa 29 = [50, 57] by decide +kernel] at I
  go_enter Tryz.func105, Tryz.ntmps105
  go_wp2_with fail
  refine (I.out _ hG).mono ?_
  rintro _ w1 ⟨rfl, hb⟩
  go_wp2_with fail
  refine (repeat0 _ _).mono ?_
  rintro _ w2 ⟨rfl, rfl⟩
  go_wp2
  go_ret
  exact ⟨ret_str (by decide), hb⟩
theorem day_text (w : World) (hM : Glb5 w) : Calls Tryz.prog 63 #[.int .i32 11016] w fun e w' => e = .returned (.string ⟨#[50, 48, 48, 48, 45, 48, 50, 45, 50, 57]⟩) ∧ Below w.heap.size w w' := by
  go_enter Tryz.func63, Tryz.ntmps63
  go_wp2_with fail
  refine (date_2000 _ hM).mono ?_
  rintro _ w1 ⟨rfl, rfl⟩
  go_wp2_with fail
  refine (pad_2000 _ hM.glb).mono ?_
  rintro _ w1 ⟨rfl, hb1⟩
  go_wp2_with fail
  refine (pad_2 _ (hM.glb.below hb1)).mono ?_
  rintro _ w2 ⟨rfl, hb2⟩
  have hB2 := below_then hb1 hb2
  go_wp2_with fail
  refine (pad_29 _ (hM.glb.below hB2)).mono ?_
  rintro _ w3 ⟨rfl, hb3⟩
  go_wp2
  go_ret
  exact ⟨ret_str (by decide), below_then hB2 hb3⟩
set_option maxHeartbeats 1000000 in
theorem awake4 (w : World) (hM : Glb5 w) : Calls Tryz.prog 280 #[] w fun e w' => e = .returned (.bool true) ∧ Below w.heap.size w w' := by
  go_enter Tryz.func280, Tryz.ntmps280
  go_wp2_with fail
  refine (of_1970 _ hM).mono ?_
  rintro _ w1 ⟨rfl, rfl⟩
  go_wp2_with fail
  refine (of_2000 _ hM).mono ?_
  rintro _ w1 ⟨rfl, rfl⟩
  go_wp2_with fail
  refine (day_text _ hM).mono ?_
  rintro _ w2 ⟨rfl, hb2⟩
  go_wp2_with fail
  refine (awake3 _ (hM.glb.below hb2)).mono ?_
  rintro _ w3 ⟨rfl, hb3⟩
  go_wp2
  go_ret
  exact ⟨rfl, below_then hb2 hb3⟩
end Go.Proofs.YtbhjkddjgikaiaaGreatDoor

namespace Go.Proofs.YtbhjkddjgikaiaaGreatDoor
open Go.RowKit
set_option linter.unusedVariables false
set_option linter.unusedSimpArgs false

theorem or_add (a b i : Nat) (h : b < 2 ^ i) : (a * 2 ^ i) ||| b = a * 2 ^ i + b := by
  rw [← Nat.shiftLeft_eq]
  exact (Nat.shiftLeft_add_eq_or_of_lt h a).symm
theorem pack_bits (a e p : Nat) (ha : a < 4294967296) (he : e < 65536) (hp : p < 65536) :
    bits BinOp.or IntKind.u64 (bits BinOp.or IntKind.u64 ((a : Int) * 4294967296) ((e : Int) * 65536)) (p : Int) = ((a * 4294967296 + e * 65536 + p : Nat) : Int) := by
  have e1 : bits BinOp.or IntKind.u64 ((a : Int) * 4294967296) ((e : Int) * 65536) = ((a * 4294967296 + e * 65536 : Nat) : Int) := by
    have h := bits_or_u64_nat (a * 4294967296) (e * 65536) (by omega) (by omega)
    rw [show ((a * 4294967296 : Nat) : Int) = (a : Int) * 4294967296 by omega, show ((e * 65536 : Nat) : Int) = (e : Int) * 65536 by omega] at h
    rw [h, or_add a (e * 65536) 32 (by omega)]
  rw [e1, bits_or_u64_nat _ p (by omega) (by omega)]
  rw [show a * 4294967296 + e * 65536 = (a * 65536 + e) * 2 ^ 16 by omega, or_add _ p 16 (by omega)]
theorem pack_any (a e p : Nat) (ha : a < 4294967296) (he : e < 65536) (hp : p < 65536) (w : World) :
    Calls Tryz.prog 279 #[.agg #[.int .u32 (a : Int), .int .u16 (e : Int), .int .u16 (p : Int)]] w fun r w' => r = .returned (.int .u64 ((a * 4294967296 + e * 65536 + p : Nat) : Int)) ∧ Below w.heap.size w w' := by
  go_enter Tryz.func279, Tryz.ntmps279
  go_wp2
  go_ret
  exact ⟨ret_int (pack_bits a e p ha he hp), (Below.refl _ _).alloc (Nat.le_refl _) _⟩
theorem awake5 (w : World) (hM : Glb5 w) : Calls Tryz.prog 278 #[] w fun e w' => e = .returned (.bool true) ∧ Below w.heap.size w w' := by
  have P := Lib.hid (pack_any 1 2 3 (by omega) (by omega) (by omega))
  rw [show ((1 * 4294967296 + 2 * 65536 + 3 : Nat) : Int) = 4295098371 from rfl] at P
  go_enter Tryz.func278, Tryz.ntmps278
  go_wp2_with fail
  refine (P.out _).mono ?_
  rintro _ w1 ⟨rfl, hb1⟩
  go_wp2_with fail
  refine (awake4 _ (hM.below hb1)).mono ?_
  rintro _ w2 ⟨rfl, hb2⟩
  go_wp2
  go_ret
  exact ⟨rfl, below_then hb1 hb2⟩
end Go.Proofs.YtbhjkddjgikaiaaGreatDoor

namespace Go.Proofs.YtbhjkddjgikaiaaGreatDoor
open Go.RowKit
open Go.Maps (Keyed)
set_option linter.unusedVariables false
set_option linter.unusedSimpArgs false

structure Ln where
  acc : Nat
  ent : Nat
  cnt : Nat
  am : Int
def ln (x : Ln) : List Value := [.int .u32 (x.acc : Int), .int .u16 (x.ent : Int), .int .u16 (x.cnt : Int), .int .i64 x.am]
def ln0 : Ln := ⟨0, 0, 0, 0⟩
def Ln.ok (x : Ln) : Prop := (x.acc < 4294967296 ∧ x.ent < 65536 ∧ x.cnt < 65536) ∧ Wd.I64 x.am
def Ln.kv (x : Ln) : Nat × Int := (x.ent, x.am)
def encU (n : Nat) : Value := .int .u16 (n : Int)
theorem encU_inj (c d : Nat) (h : encU c = encU d) : c = d := by
  unfold encU at h
  injection h with _ h
  omega
theorem keyedU : Keyed Tryz.prog 34 := Maps.int_keyed Tryz.underlying34
theorem key_ofU (n : Nat) (h : n < 65536) : keyOf Tryz.prog 34 (encU n) = some (.int .u16 (n : Int)) := Maps.keyOf_int_mk Tryz.underlying34 (by simp [Lit.wf, IntKind.min, IntKind.max, IntKind.bits, IntKind.signed]; omega)
set_option maxHeartbeats 4000000 in
set_option maxRecDepth 100000 in
theorem jsums_any (d : Int) (a : Option Addr) (cap : Nat) (l : List Ln) (w : World) (hl : l.length ≤ 1000) (hok : ∀ x ∈ l, x.ok) (hE : ElsAt ln 4 ln0 w a l) :
    Calls Tryz.prog 251 #[.agg #[.int .i32 d, .slice a l.length cap]] w fun e w' => ∃ b, e = .returned (.map (some b)) ∧ w.heap.size ≤ b ∧ MapIs w' Tryz.prog 34 encU wvalT b l.length (tG (l.map Ln.kv)) ∧ Below w.heap.size w w' := by
  have HB1 := Lib.hid (below_alloc (Below.refl _ w) (.cells #[.int .i32 d, .slice a l.length cap] 88))
  have HE := Lib.hid hE
  have HOK := Lib.hid hok
  have HL := Lib.hid hl
  have mm : ∀ (t : TypeId) (W : World), (Instr.makeMap t none).run Tryz.prog W = .ok (.map (some W.heap.size)) (W.alloc (.map #[] 0)) := fun _ _ => rfl
  clear hE hok hl
  go_enter Tryz.func251, Tryz.ntmps251
  go_wp2_with fail
  generalize hw1 : w.alloc (.cells #[.int .i32 d, .slice a l.length cap] 88) = w1 at *
  have e1 : w1.heap.size = w.heap.size + 1 := by rw [← hw1]; simp
  have hM0 := MapIs.new (κ := Nat) (ν := Int) w1 Tryz.prog 34 encU wvalT
  have HB2 := Lib.hid (below_alloc HB1.out (.map #[] 0))
  rw [e1] at hM0
  obtain ⟨b, hb⟩ : ∃ b, b = w.heap.size + 1 := ⟨_, rfl⟩
  have hbw : w.heap.size ≤ b := by omega
  rw [← hb] at hM0
  rw [← hb]
  generalize w1.alloc (.map #[] 0) = w2 at *
  have HM0 := Lib.hid hM0
  have HBW := Lib.hid hbw
  clear hM0 hbw hb e1 hw1 mm HB1
  go_loopw [10] (fun i wr => ∃ k : Nat, k ≤ l.length ∧ i = .int .i64 k ∧ MapIs wr Tryz.prog 34 encU wvalT b k (tG ((l.map Ln.kv).take k)) ∧ Below w.heap.size w wr) (fun i _ => l.length - (intOf i).toNat)
  case atStart => exact ⟨0, by omega, rfl, by rw [List.take_zero, tG_nil]; exact HM0.out, HB2.out⟩
  case round =>
    obtain ⟨k, hk, rfl, hM, BB⟩ := hrel
    have HM := Lib.hid hM
    have HBB := Lib.hid BB
    clear hM BB HM0 HB2
    by_cases hlt : k < l.length
    · have hk1 : (0 : Int) ≤ (k : Int) := by omega
      have hk2 : (k : Int) < (l.length : Int) := by omega
      obtain ⟨bl, off, rfl, hcells⟩ : ∃ bl off, a = some ⟨bl, off, none⟩ ∧ ∀ i, i < l.length → w.rangeAt bl (off + i * 4) (ln (l.getD i ln0)) := by
        rcases HE.out with h | h
        · exact absurd hlt (by rw [h]; simp)
        · exact h
      have hx := hcells k hlt
      have hox := HOK.out _ (getD_mem (d := ln0) hlt)
      have HT := Lib.hid (tmap_take_succ l Ln.kv ln0 k hlt)
      generalize l.getD k ln0 = x at *
      have RX := range_below hx HBB.out
      have c0 : wr.cell? ⟨bl, off + k * 4, none⟩ = some (.int .u32 (x.acc : Int)) := RX 0 _ rfl
      have c1 : wr.cell? ⟨bl, off + k * 4 + 1, none⟩ = some (.int .u16 (x.ent : Int)) := RX 1 _ rfl
      have c2 : wr.cell? ⟨bl, off + k * 4 + 2, none⟩ = some (.int .u16 (x.cnt : Int)) := RX 2 _ rfl
      have c3 : wr.cell? ⟨bl, off + k * 4 + 3, none⟩ = some (.int .i64 x.am) := RX 3 _ rfl
      clear hcells hx RX
      go_wp2_with fail
      obtain ⟨g5, hg5⟩ : ∃ g, g = wr.heap.size := ⟨_, rfl⟩
      have hBx := below_alloc (Below.refl _ wr) (.cells #[.int .u32 (x.acc : Int), .int .u16 (x.ent : Int), .int .u16 (x.cnt : Int), .int .i64 x.am] 207)
      have Rg := Row.new wr #[.int .u32 (x.acc : Int), .int .u16 (x.ent : Int), .int .u16 (x.cnt : Int), .int .i64 x.am] 207
      have hb8 : b < g5 := by rw [hg5]; exact HM.out.lt
      rw [← hg5] at Rg
      rw [← hg5]
      have HM1 := Lib.hid (HM.out.below hBx)
      have HBB1 := Lib.hid (below_then HBB.out hBx)
      clear hBx hg5 HM HBB c0 c1 c2 c3
      generalize wr.alloc (.cells #[.int .u32 (x.acc : Int), .int .u16 (x.ent : Int), .int .u16 (x.cnt : Int), .int .i64 x.am] 207) = wz at *
      have hblk : ∀ w', wz.grownBy w' (some b) → Row w' g5 #[.int .u32 (x.acc : Int), .int .u16 (x.ent : Int), .int .u16 (x.cnt : Int), .int .i64 x.am] 207 := fun w' h => (h.block g5 Rg.lt (by intro e; injection e with e; omega)).trans Rg
      obtain ⟨v0, hv0⟩ : ∃ v0, v0 = tsum ((l.map Ln.kv).take k) x.ent := ⟨_, rfl⟩
      have hkey := key_ofU x.ent hox.1.2.1
      have hval : getV wvalT (wvalT 0) (tG ((l.map Ln.kv).take k) x.ent) = wvalT v0 := by
        rw [hv0, ← tG_get]
        cases tG ((l.map Ln.kv).take k) x.ent <;> rfl
      have HLK : Hid (∀ W : World, MapIs W Tryz.prog 34 encU wvalT b k (tG ((l.map Ln.kv).take k)) → (Instr.lookup 313 (.map (some b)) (.int .u16 (x.ent : Int)) false).run Tryz.prog W = .ok (.agg #[.int .i64 (Wd.hi (v0)), .int .u64 (Wd.lo (v0))]) W) := Lib.hid fun W h => by
        have h := MapIs.look (enc := encU) (vl := wvalT) (e := 329) (t := 313) h keyedU Tryz.underlying313 encU_inj (zeroT W) x.ent hkey
        rw [hval] at h
        exact h
      have HU : Hid (∀ W : World, MapIs W Tryz.prog 34 encU wvalT b k (tG ((l.map Ln.kv).take k)) → ∃ w', (Instr.mapUpdate 313 (.map (some b)) (.int .u16 (x.ent : Int)) (.agg #[.int .i64 (Wd.hi (v0 + x.am)), .int .u64 (Wd.lo (v0 + x.am))])).run Tryz.prog W = .ok () w' ∧ MapIs w' Tryz.prog 34 encU wvalT b (k + 1) (tG ((l.map Ln.kv).take (k + 1))) ∧ W.grownBy w' (some b)) := Lib.hid fun W h => by
        obtain ⟨w', h1, h2, h3⟩ := MapIs.store h keyedU Tryz.underlying313 encU_inj (by have := HL.out; unfold maxLen; omega) x.ent (v0 + x.am) hkey
        refine ⟨w', h1, ?_, h3⟩
        have e := tG_step ((l.map Ln.kv).take k) (Ln.kv x)
        rw [HT.out, ← e]
        rw [hv0] at h2
        exact h2
      have ev : IntKind.i64.wrap ((k : Int) + 1) = ((k + 1 : Nat) : Int) := by have := HL.out; rw [IntKind.wrap_i64]; omega
      clear hv0 hkey hval
      refine region_lits1 (n := 12) 11 4 (by kernel_rfl) (fun c' w' => wz.grownBy w' (some b) ∧ MapIs w' Tryz.prog 34 encU wvalT b (if c' then k + 1 else k) (tG ((l.map Ln.kv).take (if c' then k + 1 else k)))) (fun i => (#[.map (some b), .pointer (some ⟨g5, 1, none⟩), .int .u16 (x.ent : Int), .map (some b), .pointer (some ⟨g5, 1, none⟩), .int .u16 (x.ent : Int), .agg #[.int .i64 (Wd.hi (v0)), .int .u64 (Wd.lo (v0))], .pointer (some ⟨g5, 3, none⟩), .int .i64 x.am, .agg #[.int .i64 (Wd.hi (x.am)), .int .u64 (Wd.lo (x.am))], .agg #[.int .i64 (Wd.hi (v0 + x.am)), .int .u64 (Wd.lo (v0 + x.am))], undef] : Array Value).getD i undef) (by kernel_rfl) (by kernel_rfl) ⟨⟨rfl, rfl, rfl, Nat.le_refl _, fun _ _ _ => rfl⟩, HM1.out⟩ rfl ?_
      intro F hF
      simp only [fill, if_true, dstAt] at hF
      simp [Act.put] at hF
      subst hF
      refine ⟨?_, ?_⟩
      · intro i o ho c wx hcm S
        rcases i with _ | _ | _ | _ | _ | _ | _ | _ | _ | _ | _ | _ | i
        all_goals (first | (simp at ho; done) | (obtain rfl := Option.some.inj ho))
        · exact yv_val rfl S (by go_simp)
        · exact yv_val rfl S (by go_simp)
        · have R := hblk wx S.1
          have c1 : wx.cell? ⟨g5, 1, none⟩ = some (.int .u16 (x.ent : Int)) := R.cell 1
          exact yv_val rfl S (by go_simp)
        · exact yv_val rfl S (by go_simp)
        · exact yv_val rfl S (by go_simp)
        · have R := hblk wx S.1
          have c1 : wx.cell? ⟨g5, 1, none⟩ = some (.int .u16 (x.ent : Int)) := R.cell 1
          exact yv_val rfl S (by go_simp)
        · obtain rfl : c = false := hcm (by kernel_rfl)
          have hl := HLK.out wx S.2
          exact yv_val rfl S (by go_simp)
        · exact yv_val rfl S (by go_simp)
        · have R := hblk wx S.1
          have c3 : wx.cell? ⟨g5, 3, none⟩ = some (.int .i64 x.am) := R.cell 3
          exact yv_val rfl S (by go_simp)
        · exact yv_call rfl rfl Tryz.func265 (by kernel_rfl) rfl #[.int .i64 x.am] (by go_simp) ((of_any x.am hox.2 wx).mono (by rintro _ wy ⟨rfl, hb⟩; exact ⟨rfl, S.1.trans (grownT_below hb), S.2.below hb⟩))
        · exact yv_call rfl rfl Tryz.func264 (by kernel_rfl) rfl #[.agg #[.int .i64 (Wd.hi (v0)), .int .u64 (Wd.lo (v0))], .agg #[.int .i64 (Wd.hi (x.am)), .int .u64 (Wd.lo (x.am))]] (by go_simp) ((add_any v0 x.am wx).mono (by rintro _ wy ⟨rfl, hb⟩; exact ⟨rfl, S.1.trans (grownT_below hb), S.2.below hb⟩))
        · obtain rfl : c = false := hcm (by kernel_rfl)
          obtain ⟨w', hr, hM', hg⟩ := HU.out wx S.2
          exact yv_skip rfl ⟨S.1.trans hg, hM'⟩ (by go_simp)
      · intro wy S
        simp only [if_true] at S
        have HM2 := Lib.hid S.2
        have HBB2 := Lib.hid (belowT_grown HBB1.out HBW.out S.1)
        clear S hblk Rg HM1 HBB1 HLK HU
        go_wp2_with fail
        exact ⟨⟨k + 1, by omega, rfl, HM2.out, HBB2.out⟩, by simp [intOf]; omega⟩
    · obtain rfl : k = l.length := by omega
      have hk0 : ¬ ((l.length : Int) < (l.length : Int)) := by omega
      go_wp2
      go_ret
      refine ⟨b, rfl, HBW.out, ?_, HBB.out⟩
      have h := HM.out
      rwa [show (l.map Ln.kv).take l.length = l.map Ln.kv by rw [List.take_of_length_le (by simp)]] at h
end Go.Proofs.YtbhjkddjgikaiaaGreatDoor
