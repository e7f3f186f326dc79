/-
  Own texts, several in one (Pair14, Law14b).
-/
import Derived.Test.YtbhjkddjgikaiaaGreatDoorMrg37
import Derived.Test.YtbhjkddjgikaiaaGreatDoorMrg40
namespace Go.Proofs.YtbhjkddjgikaiaaGreatDoor
open Go.RowKit
set_option linter.unusedVariables false
set_option linter.unusedSimpArgs false
/-- what a parser's answer says of a text -/
def PO (w : World) (l : List UInt8) (p : Option Addr) (n c : Nat) (a e : Int) : Prop :=
  (∃ pp cc : Nat, Sc.parse Dy.parse l = .error (pp, cc) ∧ p = none ∧ n = 0 ∧ c = 0 ∧ a = (pp : Int) ∧ e = (cc : Int)) ∨
  (∃ (ops : List Sc.Op) (vals : List (Sc.Op × Value × Value)), Sc.parse Dy.parse l = .ok ops ∧ vals.map (·.1) = ops ∧ n = vals.length ∧ a = 0 ∧ e = 0 ∧ ElsAt opE 8 opE0 w p vals ∧ ∀ x ∈ vals, okP w x)
theorem parse_out {B : Nat} {l : List UInt8} {e : Ending} {w : World} (h : parseR B (Sc.parse Dy.parse l) e w) : ∃ p n c a er, e = .returned (.tuple #[.slice p n c, .int .i64 a, .int .i64 er]) ∧ PO w l p n c a er := by
  rcases hp : Sc.parse Dy.parse l with ⟨pp, cc⟩ | ops
  · rw [hp] at h
    exact ⟨none, 0, 0, (pp : Int), (cc : Int), h, .inl ⟨pp, cc, hp, rfl, rfl, rfl, rfl, rfl⟩⟩
  · rw [hp] at h
    obtain ⟨v, vals, he, how, hv, hok⟩ : ∃ (v : Value) (vals : List (Sc.Op × Value × Value)), e = .returned (.tuple #[v, .int .i64 0, .int .i64 0]) ∧ w.ownsRow B 48 8 v vals.length (vals.flatMap opE) ∧ vals.map (·.1) = ops ∧ ∀ x ∈ vals, okP w x := h
    obtain ⟨_, p, c, rfl, hE⟩ := els_ownG opE 8 opE0 (fun _ => rfl) (by omega) how
    exact ⟨p, vals.length, c, 0, 0, he, .inr ⟨ops, vals, hp, hv, rfl, rfl, rfl, hE, hok⟩⟩
theorem PO.below {w w' : World} {l : List UInt8} {p : Option Addr} {n c : Nat} {a e : Int} (h : PO w l p n c a e) (hb : Below w.heap.size w w') : PO w' l p n c a e := by
  rcases h with h | ⟨ops, vals, h1, h2, h3, h4, h5, h6, h7⟩
  · exact .inl h
  · exact .inr ⟨ops, vals, h1, h2, h3, h4, h5, h6.below hb, fun x hx => okP_only (h7 x hx) (Only.of_below (S := fun _ => False) hb) (fun _ _ h => h)⟩
theorem pair14 {w : World} {l : List UInt8} {p1 p2 : Option Addr} {n1 n2 c1 c2 : Nat} {a1 a2 e1 e2 : Int} (h1 : PO w l p1 n1 c1 a1 e1) (h2 : PO w l p2 n2 c2 a2 e2) : n2 = n1 ∧ a2 = a1 ∧ e2 = e1 ∧
    Calls Tryz.prog 19 #[.slice p1 n1 c1, .slice p2 n2 c2] w fun e w' => e = .returned (.bool true) ∧ Below w.heap.size w w' := by
  rcases h1 with ⟨pp, cc, hp, rfl, rfl, rfl, rfl, rfl⟩ | ⟨ops, vals, hp, hv, rfl, rfl, rfl, hE, hok⟩
  · rcases h2 with ⟨pp2, cc2, hp2, rfl, rfl, rfl, rfl, rfl⟩ | ⟨ops, vals, hp2, _⟩
    · rw [hp] at hp2
      simp only [Except.error.injEq, Prod.mk.injEq] at hp2
      obtain ⟨rfl, rfl⟩ := hp2
      exact ⟨rfl, rfl, rfl, same14 none none 0 0 [] [] w (.inl rfl) (.inl rfl) (fun e he => by cases he) (fun e he => by cases he) (by simp) rfl (fun e he => by cases he)⟩
    · rw [hp] at hp2; cases hp2
  · rcases h2 with ⟨pp2, cc2, hp2, _⟩ | ⟨ops2, vals2, hp2, hv2, rfl, rfl, rfl, hE2, hok2⟩
    · rw [hp] at hp2; cases hp2
    · rw [hp] at hp2
      obtain rfl := Except.ok.inj hp2
      have hbd := Sc.parse_bd hp
      have hl1 : vals.length = ops.length := by rw [← hv, List.length_map]
      have hl2 : vals2.length = ops.length := by rw [← hv2, List.length_map]
      exact ⟨by omega, rfl, rfl, same14 p1 p2 c1 c2 vals vals2 w hE hE2 hok hok2 (by have := hbd.2; omega) (hv.trans hv2.symm) (fun e he => hbd.1 e.1 (by rw [← hv]; exact List.mem_map_of_mem he))⟩
end Go.Proofs.YtbhjkddjgikaiaaGreatDoor

namespace Go.Proofs.YtbhjkddjgikaiaaGreatDoor
open Go.RowKit
set_option linter.unusedVariables false
set_option linter.unusedSimpArgs false
set_option maxHeartbeats 8000000 in
set_option maxRecDepth 100000 in
theorem parseMany_law (ops parts n : Nat) (ho : ops ≤ 255) (hp : parts ≤ 255) (hn : n ≤ 4294967295) (w : World) (hM : Glb13 w) :
    Calls Tryz.prog 6 #[.int .u8 (ops : Int), .int .u8 (parts : Int), .int .u32 (n : Int)] w fun e w' => e = .returned (.bool true) ∧ Below w.heap.size w w' := by
  obtain ⟨r, hr⟩ : ∃ r : Nat, r = ops % 20 := ⟨_, rfl⟩
  have q1 : (ops : Int) % 20 = (r : Int) := by omega
  obtain ⟨t, ht⟩ : ∃ t : Nat, t = parts % 12 := ⟨_, rfl⟩
  have q2 : (parts : Int) % 12 = (t : Int) := by omega
  have hrt : r < 20 ∧ t < 12 := by omega
  have HRT := Lib.hid hrt
  have HR1 : Hid (∀ W, Calls Tryz.prog 22 #[.string ⟨#[109, 101, 114, 103, 101, 32, 49, 32, 105, 110, 116, 111, 32, 50, 59]⟩, .int .i64 (90 + (r : Int))] W fun e w' => (∃ S : ByteArray, e = .returned (.string S) ∧ S.size = 15 * (90 + r)) ∧ Below W.heap.size W w') := Lib.hid fun W => by
    have h := repeat_any ⟨#[109, 101, 114, 103, 101, 32, 49, 32, 105, 110, 116, 111, 32, 50, 59]⟩ (90 + r) W (by omega) (by decide)
    rw [show ((90 + r : Nat) : Int) = 90 + (r : Int) by omega] at h
    refine h.mono ?_
    rintro _ w' ⟨rfl, hb⟩
    refine ⟨⟨_, rfl, ?_⟩, hb⟩
    show (Lib.repeatL [109, 101, 114, 103, 101, 32, 49, 32, 105, 110, 116, 111, 32, 50, 59] (90 + r)).toArray.size = _
    rw [List.size_toArray, Lib.repeatL_length]
    simp
    omega
  have HR2 : Hid (∀ W, Calls Tryz.prog 22 #[.string ⟨#[44, 32, 51, 32, 49]⟩, .int .i64 (t : Int)] W fun e w' => (∃ S : ByteArray, e = .returned (.string S) ∧ S.size = 5 * t) ∧ Below W.heap.size W w') := Lib.hid fun W => by
    refine (repeat_any ⟨#[44, 32, 51, 32, 49]⟩ t W (by omega) (by decide)).mono ?_
    rintro _ w' ⟨rfl, hb⟩
    refine ⟨⟨_, rfl, ?_⟩, hb⟩
    show (Lib.repeatL [44, 32, 51, 32, 49] t).toArray.size = _
    rw [List.size_toArray, Lib.repeatL_length]
    simp
    omega
  have HIT : Hid (∀ W, Glb13 W → Calls Tryz.prog 23 #[.int .i64 (n : Int)] W fun e w' => (∃ S : ByteArray, e = .returned (.string S) ∧ S.size ≤ 20) ∧ Below W.heap.size W w') := Lib.hid fun W hW => by
    have h := itoa_any (n : Int) (by unfold Wd.I64; omega) W hW.g5.glb
    rw [Lib.itoa_nonneg] at h
    refine h.mono ?_
    rintro _ w' ⟨rfl, hb⟩
    exact ⟨⟨_, rfl, by show (Lib.decDigits n).toArray.size ≤ 20; rw [List.size_toArray]; exact dec_len n (by omega)⟩, hb⟩
  clear hr ht hrt
  have HM := Lib.hid hM
  have HA := Lib.hid (awake14 w hM)
  clear hM
  go_enter Tryz.func6, Tryz.ntmps6
  go_wp2_with fail
  refine HA.out.mono ?_
  rintro _ w1 ⟨rfl, hb1⟩
  have HB1 := Lib.hid hb1
  clear hb1
  go_wp2_with fail
  refine (HR1.out w1).mono ?_
  rintro _ w2 ⟨⟨S1, rfl, hs1⟩, hb2⟩
  have HB2 := Lib.hid (below_then HB1.out hb2)
  have hrt := HRT.out
  have x1 : S1.size + 16 ≤ 9223372036854775807 := by omega
  have HS1 := Lib.hid hs1
  clear hb2 hs1 hrt
  go_wp2_with fail
  refine (HR2.out w2).mono ?_
  rintro _ w3 ⟨⟨S2, rfl, hs2⟩, hb3⟩
  have HB3 := Lib.hid (below_then HB2.out hb3)
  have hrt := HRT.out
  have hs1 := HS1.out
  obtain ⟨T1, hT1⟩ : ∃ T : ByteArray, T = S1 ++ ⟨#[115, 112, 108, 105, 116, 32, 49, 32, 105, 110, 116, 111, 32, 50, 32, 49]⟩ := ⟨_, rfl⟩
  rw [← hT1]
  have ht1 : T1.size = S1.size + 16 := by rw [hT1, ByteArray.size_append]; rfl
  clear hT1
  have x2 : T1.size + S2.size ≤ 9223372036854775807 := by omega
  have x3 : T1.size + S2.size + 1 ≤ 9223372036854775807 := by omega
  have HT := Lib.hid (show T1.size + S2.size ≤ 2000 ∧ 15 * (90 + r) ≤ T1.size by omega)
  clear hb3 hs2 hrt hs1 ht1 x1
  go_wp2_with fail
  obtain ⟨T2, hT2⟩ : ∃ T : ByteArray, T = T1 ++ S2 ++ ⟨#[59]⟩ := ⟨_, rfl⟩
  rw [← hT2]
  have ht2 : T2.size = T1.size + S2.size + 1 := by rw [hT2, ByteArray.size_append, ByteArray.size_append]; rfl
  have HT2 := Lib.hid (show T2.size ≤ 3000 ∧ 15 * (90 + r) ≤ T2.size by have := HT.out; omega)
  clear hT2 ht2 x2 x3
  refine (HIT.out w3 (HM.out.below HB3.out)).mono ?_
  rintro _ w4 ⟨⟨S3, rfl, hs3⟩, hb4⟩
  have HB4 := Lib.hid (below_then HB3.out hb4)
  have x4 : 7 + S3.size ≤ 9223372036854775807 := by omega
  have x5 : 7 + S3.size + 13 ≤ 9223372036854775807 := by omega
  clear hb4
  go_wp2_with fail
  refine (HIT.out w4 (HM.out.below HB4.out)).mono ?_
  rintro _ w5 ⟨⟨S4, rfl, hs4⟩, hb5⟩
  have HB5 := Lib.hid (below_then HB4.out hb5)
  obtain ⟨T3, hT3⟩ : ∃ T : ByteArray, T = ⟨#[114, 101, 99, 111, 100, 101, 32]⟩ ++ S3 ++ ⟨#[32, 116, 111, 32, 49, 59, 32, 109, 101, 114, 103, 101, 32]⟩ := ⟨_, rfl⟩
  rw [← hT3]
  have ht3 : T3.size = 7 + S3.size + 13 := by rw [hT3, ByteArray.size_append, ByteArray.size_append]; rfl
  have x6 : T3.size + S4.size ≤ 9223372036854775807 := by omega
  have x7 : T3.size + S4.size + 8 ≤ 9223372036854775807 := by omega
  have HT3 := Lib.hid (show T3.size + S4.size ≤ 60 by omega)
  have h2 := HT2.out
  have y1 : (0 : Int) ≤ 15 * (90 + (r : Int)) := by omega
  have y2 : 15 * (90 + (r : Int)) ≤ (T2.size : Int) := by omega
  have y3 : IntKind.i64.wrap (15 * (90 + (r : Int))) = 15 * (90 + (r : Int)) := by have := HRT.out; rw [IntKind.wrap_i64]; omega
  clear hb5 hT3 ht3 x4 x5 hs3 hs4 h2
  go_wp2_with fail
  obtain ⟨T4, hT4⟩ : ∃ T : ByteArray, T = T3 ++ S4 ++ ⟨#[32, 105, 110, 116, 111, 32, 49, 59]⟩ := ⟨_, rfl⟩
  rw [← hT4]
  obtain ⟨T5, hT5⟩ : ∃ T : ByteArray, T = T2.extract (15 * (90 + r)) T2.size := ⟨_, rfl⟩
  rw [← hT5]
  have ht4 : T4.size ≤ 65536 := by
    rw [hT4, ByteArray.size_append, ByteArray.size_append]
    have := HT3.out
    show T3.size + S4.size + 8 ≤ _
    omega
  have ht5 : T5.size ≤ 65536 := by
    rw [hT5, ByteArray.size_extract]
    have := HT2.out
    omega
  have ht2 : T2.size ≤ 65536 := by have := HT2.out; omega
  have RW := Row.new w5 #[.string T2, .string T4, .string T5] 9
  have HBW := Lib.hid (below_alloc HB5.out (.cells #[.string T2, .string T4, .string T5] 9))
  have HST : Hid (∀ k, k < 3 → ∃ S : ByteArray, (#[Value.string T2, .string T4, .string T5])[k]? = some (.string S) ∧ S.size ≤ 65536) := Lib.hid fun k hk => by
    rcases (show k = 0 ∨ k = 1 ∨ k = 2 by omega) with rfl | rfl | rfl
    · exact ⟨T2, rfl, ht2⟩
    · exact ⟨T4, rfl, ht4⟩
    · exact ⟨T5, rfl, ht5⟩
  have HRW := Lib.hid RW
  clear hT4 hT5 ht4 ht5 ht2 RW y1 y2 y3 x6 x7 q1 q2
  generalize w5.alloc (.cells #[.string T2, .string T4, .string T5] 9) = wS at *
  generalize w5.heap.size = gw at *
  go_loopw [52] (fun iv wr => ∃ k : Nat, k ≤ 3 ∧ iv = .int .i64 (k : Int) ∧ Row wr gw #[.string T2, .string T4, .string T5] 9 ∧ Below w.heap.size w wr) (fun iv _ => 3 - (intOf iv).toNat)
  case atStart => exact ⟨0, by omega, rfl, HRW.out, HBW.out⟩
  case round =>
    obtain ⟨k, hk3, rfl, RW, BB⟩ := hrel
    have HBB := Lib.hid BB
    have HK3 := Lib.hid hk3
    clear BB hk3
    by_cases hlt : k < 3
    · have i1 : (k : Int) < 3 := by omega
      have i2 : (0 : Int) ≤ (k : Int) := by omega
      have e9 : IntKind.i64.wrap ((k : Int) + 1) = (k : Int) + 1 := by rw [IntKind.wrap_i64]; omega
      obtain ⟨S, hS, hSs⟩ := HST.out k hlt
      have cw : wr.cell? ⟨gw, k, none⟩ = some (.string S) := (RW.cell k).trans hS
      obtain ⟨l, hl⟩ : ∃ l, l = S.data.toList := ⟨_, rfl⟩
      have hsz : S.size = l.length := by rw [hl]; exact size_data S
      have HLT := Lib.hid (And.intro hlt (And.intro RW (And.intro hl (show l.length ≤ 65536 by omega))))
      clear hlt RW hS hSs hl hsz
      go_wp2_with fail
      refine (pparse_any S l HLT.out.2.2.1 wr (HM.out.below HBB.out)).mono ?_
      rintro e2 w2' ⟨hr2, hb2⟩
      obtain ⟨p1, n1, c1, a1, er1, rfl, h1⟩ := parse_out hr2
      have H1 := Lib.hid h1
      have HB2' := Lib.hid hb2
      clear hr2 h1 hb2
      go_wp2_with fail
      refine (lparse_any S l HLT.out.2.2.1 HLT.out.2.2.2 w2' (HM.out.below (below_then HBB.out HB2'.out))).mono ?_
      rintro e3 w3' ⟨hr3, hb3⟩
      obtain ⟨p2, n2, c2, a2, er2, rfl, h2⟩ := parse_out hr3
      obtain ⟨rfl, rfl, rfl, hS⟩ := pair14 (H1.out.below hb3) h2
      have HS := Lib.hid hS
      have HB3' := Lib.hid hb3
      clear hr3 h2 hS hb3
      go_wp2_with fail
      refine HS.out.mono ?_
      rintro _ w4' ⟨rfl, hb4⟩
      have B4 := below_then (below_then HB2'.out HB3'.out) hb4
      have HB4' := Lib.hid B4
      clear hb4 B4
      go_wp2_with fail
      exact ⟨⟨k + 1, by have := HLT.out.1; omega, by simp, HLT.out.2.1.below HB4'.out, below_then HBB.out HB4'.out⟩, by have := HLT.out.1; simp [intOf]; omega⟩
    · have i1 : ¬ (k : Int) < 3 := by omega
      clear hlt RW
      go_wp2_with fail
      go_ret
      exact ⟨rfl, HBB.out⟩
theorem parseMany_int (a0 a1 a2 : Int) (h0 : 0 ≤ a0 ∧ a0 ≤ 255) (h1 : 0 ≤ a1 ∧ a1 ≤ 255) (h2 : 0 ≤ a2 ∧ a2 ≤ 4294967295) (w : World) (hM : Glb13 w) :
    Calls Tryz.prog 6 #[.int .u8 a0, .int .u8 a1, .int .u32 a2] w fun e w' => e = .returned (.bool true) ∧ Below w.heap.size w w' := by
  obtain ⟨n0, rfl⟩ := Int.eq_ofNat_of_zero_le h0.1
  obtain ⟨n1, rfl⟩ := Int.eq_ofNat_of_zero_le h1.1
  obtain ⟨n2, rfl⟩ := Int.eq_ofNat_of_zero_le h2.1
  exact parseMany_law n0 n1 n2 (by omega) (by omega) (by omega) w hM
end Go.Proofs.YtbhjkddjgikaiaaGreatDoor
