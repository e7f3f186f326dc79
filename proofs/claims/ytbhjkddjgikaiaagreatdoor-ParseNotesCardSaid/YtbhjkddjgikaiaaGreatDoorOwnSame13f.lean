/-
  Own texts, several in one (Same13f, Law14f).
-/
import Derived.Test.YtbhjkddjgikaiaaGreatDoorOwnReplP
import Derived.Test.YtbhjkddjgikaiaaGreatDoorOwnLaw14c
import Derived.Test.YtbhjkddjgikaiaaGreatDoorOwnLaw14e
import Derived.Test.YtbhjkddjgikaiaaGreatDoorShelfD
namespace Go.Proofs.YtbhjkddjgikaiaaGreatDoor
open Go.RowKit
set_option linter.unusedVariables false
set_option linter.unusedSimpArgs false
set_option maxHeartbeats 4000000 in
theorem sameO_any (p1 p2 : Option Addr) (c1 c2 : Nat) (l m : List (Sc.Op × Value × Value)) (w : World) (h1 : ElsAt opE 8 opE0 w p1 l) (h2 : ElsAt opE 8 opE0 w p2 m) (ho1 : ∀ e ∈ l, okE w e) (ho2 : ∀ e ∈ m, okE w e) (hl : l.length ≤ 1000000) :
    Calls Tryz.prog 26 #[.slice p1 l.length c1, .slice p2 m.length c2] w fun e w' => e = .returned (.bool (sameL l m)) ∧ Below w.heap.size w w' := by
  have H := Lib.hid (equalf_any p1 p2 c1 c2 l m w h1 h2 ho1 ho2 hl)
  go_enter Tryz.func26, Tryz.ntmps26
  go_wp2_with fail
  refine H.out.mono ?_
  rintro _ w1 ⟨rfl, hb⟩
  go_wp2_with fail
  go_ret
  exact ⟨rfl, hb⟩
end Go.Proofs.YtbhjkddjgikaiaaGreatDoor

namespace Go.Proofs.YtbhjkddjgikaiaaGreatDoor
open Go.RowKit
set_option linter.unusedVariables false
set_option linter.unusedSimpArgs false
theorem place_pos (dt : Int → List UInt8) : ∀ (l : List Sc.Op) (i : Nat), ∀ o ∈ Sc.place dt 1 i l, o.pos ≤ i + (Sc.print dt l).length
  | [], _, o, h => by cases h
  | o :: l, i, x, h => by
    have h2 : (Sc.print dt (o :: l)).length = (Sc.text dt o).length + 1 + (Sc.print dt l).length := by
      simp [Sc.print]
      omega
    rw [h2]
    rcases List.mem_cons.1 h with rfl | h
    · show i ≤ _
      omega
    · have := place_pos dt l _ x h
      omega
theorem can_bare {l m : List Sc.Op} (h : l.map Sc.Op.bare = m.map Sc.Op.bare) (hm : ∀ o ∈ m, o.can) (hp : ∀ o ∈ l, o.pos ≤ 1000000) : ∀ o ∈ l, o.can := fun o ho => by
  have h1 : o.bare ∈ m.map Sc.Op.bare := by rw [← h]; exact List.mem_map_of_mem ho
  obtain ⟨x, hx, hb⟩ := List.mem_map.1 h1
  obtain ⟨c1, c2, c3, c4, c5, c6, c7⟩ := hm x hx
  have hpo := hp o ho
  obtain ⟨k1, f1, t1, n1, s1, r1, z1, o1⟩ := o
  obtain ⟨k2, f2, t2, n2, s2, r2, z2, o2⟩ := x
  cases hb
  exact ⟨c1, c2, c3, c4, c5, c6, hpo⟩
theorem take_getD {α : Type} (d : α) (l : List α) (k : Nat) (h : k < l.length) : l.take (k + 1) = l.take k ++ [l.getD k d] := by
  rw [List.take_succ_eq_append_getElem h]
  simp [List.getD, h]
theorem flat_textN (n : List UInt8) : ∀ (l : List Sc.Op), (l.flatMap (Sc.textN Dy.text n)).length = (Sc.print Dy.text l).length + (n.length + 4) * l.length
  | [] => rfl
  | o :: l => by
    have h2 : (Sc.print Dy.text (o :: l)).length = (Sc.text Dy.text o).length + 1 + (Sc.print Dy.text l).length := by
      simp [Sc.print]
      omega
    have h3 : (Sc.textN Dy.text n o).length = (Sc.text Dy.text o).length + (n.length + 5) := by
      rw [Sc.text_body]
      simp [Sc.textN]
      omega
    have h4 := flat_textN n l
    have h5 : (n.length + 4) * (o :: l).length = (n.length + 4) * l.length + (n.length + 4) := by rw [List.length_cons, Nat.mul_succ]
    rw [List.flatMap_cons, List.length_append, h2, h3, h4, h5]
    omega
theorem count_print (ops : List Sc.Op) (h : ∀ o ∈ ops, Sc.cl o.name) : Lib.count (Sc.print Dy.text ops) [59, 10] = ops.length := by
  have e1 : Sc.print Dy.text ops = (ops.map fun o => Sc.word o.kind ++ Sc.body Dy.text o).flatMap fun x => x ++ [59, 10] := by
    unfold Sc.print
    rw [List.flatMap_map]
    congr 1
    funext o
    rw [Sc.text_body]
    simp
  rw [e1, Sc.count_signs _ (fun x hx => by
    obtain ⟨o, ho, rfl⟩ := List.mem_map.1 hx
    exact Sc.cl_body o (h o ho)), List.length_map]
set_option maxHeartbeats 8000000 in
set_option maxRecDepth 100000 in
theorem parseNotes_law (a1 : Option Addr) (len1 cap1 : Nat) (l1 : List (Sc.O × Value × Value)) (note : ByteArray) (w : World) (hM : Glb13 w) (hl1 : l1.length = len1)
    (hok1 : ∀ x ∈ l1, okO w x) (hE1 : ElsAt ovE 7 o0 w a1 l1) (hlm1 : len1 ≤ 9223372036854775807) :
    Calls Tryz.prog 8 #[.slice a1 len1 cap1, .string note] w fun e w' => e = .returned (.bool true) ∧ Below w.heap.size w w' := by
  subst hl1
  have HA := Lib.hid (awake14 w hM)
  have HE1 := Lib.hid hE1
  have HO1 := Lib.hid hok1
  have HM := Lib.hid hM
  have HC := Lib.hid (fun W => Any.strings_Contains_one Tryz.lays144 note 10 W)
  clear hM hok1 hE1
  go_enter Tryz.func8, Tryz.ntmps8
  go_wp2_with fail
  refine HA.out.mono ?_
  rintro _ w1 ⟨rfl, hb1⟩
  have HBS := Lib.hid hb1
  clear hb1
  by_cases h1 : 20 < l1.length
  · have j1 : (20 : Int) < (l1.length : Int) := by omega
    go_wp2_with fail
    go_ret
    exact ⟨rfl, HBS.out⟩
  · have j1 : ¬ (20 : Int) < (l1.length : Int) := by omega
    by_cases h2 : 30 < note.size
    · have j2 : (30 : Int) < (note.size : Int) := by omega
      go_wp2_with fail
      go_ret
      exact ⟨rfl, HBS.out⟩
    · have j2 : ¬ (30 : Int) < (note.size : Int) := by omega
      go_wp2_with fail
      refine (HC.out w1).mono ?_
      rintro _ w1 ⟨rfl, rfl⟩
      by_cases hi : 0 ≤ Lib.indexByte note.data.toList 10
      · go_wp2_with fail
        go_ret
        exact ⟨rfl, HBS.out⟩
      · have hnn : ∀ b ∈ note.data.toList, b ≠ (10 : UInt8) := by
          have hge := Lib.indexByte_ge note.data.toList 10
          have hr := (note_idx note.data.toList).1 (by omega)
          intro b hb
          have := Lx.mem_take_run Lx.note note.data.toList b (by rw [hr, List.take_length]; exact hb)
          intro e
          rw [e] at this
          revert this
          decide
        have H30 := Lib.hid (And.intro h1 (And.intro h2 hnn))
        clear h1 h2 hnn hlm1
        go_wp2_with fail
        clear j1 j2 hi
        go_loopw [5, 30] (fun st iv wr => ∃ k : Nat, k ≤ l1.length ∧ iv = .int .i64 (k : Int) ∧ st = .string ⟨(Sc.print Dy.text ((l1.take k).map fun e => Sc.raw e.1)).toArray⟩ ∧ (Sc.print Dy.text ((l1.take k).map fun e => Sc.raw e.1)).length ≤ 1001 * k ∧ Below w1.heap.size w1 wr) (fun _ iv _ => l1.length - (intOf iv).toNat)
        case atStart => exact ⟨0, by omega, rfl, rfl, by show 0 ≤ _; omega, Below.refl _ _⟩
        case round =>
          obtain ⟨k, hk, rfl, rfl, hln, BB⟩ := hrel
          have h30 := H30.out
          have HB1 := Lib.hid BB
          have HBZ := Lib.hid (Below.trans HBS.out (below_base14 BB HBS.out.size))
          obtain ⟨S, hSe⟩ : ∃ S : ByteArray, S = ⟨(Sc.print Dy.text ((l1.take k).map fun e => Sc.raw e.1)).toArray⟩ := ⟨_, rfl⟩
          rw [← hSe]
          have hS : S.size ≤ 1001 * k := by rw [hSe]; show (Sc.print Dy.text ((l1.take k).map fun e => Sc.raw e.1)).toArray.size ≤ _; rw [List.size_toArray]; exact hln
          have HSS := Lib.hid (And.intro hSe hS)
          clear BB hS hln hSe
          by_cases hlt : k < l1.length
          · have i0 : (0 : Int) ≤ (k : Int) := by omega
            have i1 : (k : Int) < (l1.length : Int) := by omega
            obtain ⟨b, off, rfl, hcc⟩ : ∃ b off, a1 = some ⟨b, off, none⟩ ∧ ∀ i, i < l1.length → w.rangeAt b (off + i * 7) (ovE (l1.getD i o0)) := by
              rcases HE1.out with h | h
              · rw [h] at hlt; simp at hlt
              · exact h
            have ck := range_below (hcc k hlt) HBZ.out
            have htk := take_getD o0 l1 k hlt
            have hq := okO_below (HO1.out _ (getD_mem (d := o0) hlt)) HBZ.out
            generalize l1.getD k o0 = q at ck hq htk
            obtain ⟨x, vp, vl⟩ := q
            have hsm := raw_small x
            have htl := otext_len3 (Sc.raw x) (Sc.raw_can x hq.1) hsm.1 hsm.2.1 hsm.2.2
            have HRC := Lib.hid (Sc.raw_can x hq.1)
            have HQ := Lib.hid hq
            have HLT := Lib.hid hlt
            have e9 : IntKind.i64.wrap ((k : Int) + 1) = (k : Int) + 1 := by rw [IntKind.wrap_i64]; omega
            have c0 : wr.cell? ⟨b, off + k * 7, none⟩ = some (.int .u8 (x.kind : Int)) := ck 0 _ rfl
            have c1 : wr.cell? ⟨b, off + k * 7 + 1, none⟩ = some (.int .u8 (x.a : Int)) := ck 1 _ rfl
            have c2 : wr.cell? ⟨b, off + k * 7 + 2, none⟩ = some (.int .u8 (x.b : Int)) := ck 2 _ rfl
            have c3 : wr.cell? ⟨b, off + k * 7 + 3, none⟩ = some (.int .u8 (x.nm : Int)) := ck 3 _ rfl
            have c4 : wr.cell? ⟨b, off + k * 7 + 4, none⟩ = some vp := ck 4 _ rfl
            have c5 : wr.cell? ⟨b, off + k * 7 + 5, none⟩ = some (.int .i16 x.first) := ck 5 _ rfl
            have c6 : wr.cell? ⟨b, off + k * 7 + 6, none⟩ = some vl := ck 6 _ rfl
            obtain ⟨T, hT⟩ : ∃ T : ByteArray, T = ⟨(Sc.text Dy.text (Sc.raw x)).toArray⟩ := ⟨_, rfl⟩
            have htz : T.size ≤ 1000 := by rw [hT]; show (Sc.text Dy.text (Sc.raw x)).toArray.size ≤ 1000; rw [List.size_toArray]; exact htl
            have hSS := HSS.out.2
            have x1 : T.size + 1 ≤ 9223372036854775807 := by omega
            have x2 : S.size + (T.size + 1) ≤ 9223372036854775807 := by omega
            have HTZ := Lib.hid (And.intro hT htz)
            have HTK := Lib.hid htk
            clear htk
            clear hlt hcc ck hq hsm htl hT htz hSS h30 hk
            obtain ⟨pp, np, cp, rfl⟩ : ∃ p n c, vp = .slice p n c := by obtain ⟨p, c, e, _⟩ := HQ.out.2.1; exact ⟨_, _, _, e⟩
            obtain ⟨ps, ns, cs, rfl⟩ : ∃ p n c, vl = .slice p n c := by obtain ⟨p, c, e, _⟩ := HQ.out.2.2; exact ⟨_, _, _, e⟩
            go_wp2_with fail
            have BA := below_alloc (Below.refl _ wr) (.cells (ov x (.slice pp np cp) (.slice ps ns cs)).toArray 38)
            have hqa := okO_below HQ.out BA
            refine (raw_any x HQ.out.1 _ _ (wr.alloc (.cells (ov x (.slice pp np cp) (.slice ps ns cs)).toArray 38)) hqa.2.1 hqa.2.2).mono ?_
            rintro _ w2' ⟨v1, v2, rfl, hp, hn, hf1, hf2, hb2⟩
            have B2 := below_then BA hb2
            go_wp2_with fail
            refine (ltext_any (Sc.raw x) v1 v2 HRC.out w2' hp hn (HM.out.below (below_then HBZ.out B2))).mono ?_
            rintro _ w3' ⟨rfl, hb3⟩
            rw [← HTZ.out.1]
            have HB3 := Lib.hid (below_then HB1.out (below_then B2 hb3))
            clear hp hn hf1 hf2 hb2 B2 hb3 BA hqa c0 c1 c2 c3 c4 c5 c6
            go_wp2_with fail
            have h7 := HTZ.out
            have h8 := HSS.out
            have hpr : Sc.print Dy.text ((l1.take (k + 1)).map fun e => Sc.raw e.1) = Sc.print Dy.text ((l1.take k).map fun e => Sc.raw e.1) ++ (Sc.text Dy.text (Sc.raw x) ++ [10]) := by
              rw [HTK.out, List.map_append]
              exact print_snoc _ _
            have hz := h8.2
            rw [h8.1] at hz
            have hz2 : (Sc.print Dy.text ((l1.take k).map fun e => Sc.raw e.1)).length ≤ 1001 * k := by
              have : (⟨(Sc.print Dy.text ((l1.take k).map fun e => Sc.raw e.1)).toArray⟩ : ByteArray).size = (Sc.print Dy.text ((l1.take k).map fun e => Sc.raw e.1)).length := List.size_toArray
              omega
            have hz3 : (Sc.text Dy.text (Sc.raw x)).length ≤ 1000 := by
              have h9 := h7.2
              rw [h7.1] at h9
              have : (⟨(Sc.text Dy.text (Sc.raw x)).toArray⟩ : ByteArray).size = (Sc.text Dy.text (Sc.raw x)).length := List.size_toArray
              omega
            refine ⟨⟨k + 1, by have := HLT.out; omega, by simp, ?_, ?_, HB3.out⟩, by have := HLT.out; simp [intOf]; omega⟩
            · rw [hpr, h8.1, h7.1]
              refine congrArg Value.string ?_
              apply ByteArray.ext
              simp
            · rw [hpr]
              simp only [List.length_append, List.length_cons, List.length_nil]
              omega
          · have i1 : ¬ (k : Int) < (l1.length : Int) := by omega
            obtain rfl : k = l1.length := by omega
            clear hlt hk
            obtain ⟨ops, hops⟩ : ∃ m, m = l1.map fun e => Sc.raw e.1 := ⟨_, rfl⟩
            obtain ⟨tx, htx⟩ : ∃ t, t = Sc.print Dy.text ops := ⟨_, rfl⟩
            have hSe : S = ⟨tx.toArray⟩ := by have := HSS.out.1; rw [List.take_length] at this; rw [this, htx, hops]
            have hSz := HSS.out.2
            have htl : tx.length ≤ 20020 := by
              have : S.size = tx.length := by rw [hSe]; exact List.size_toArray
              omega
            have hol : ops.length ≤ 20 := by rw [hops, List.length_map]; omega
            have hokm : ∀ o ∈ ops, o.ok Dy.inY ∧ o.may := fun o ho => by
              rw [hops] at ho
              obtain ⟨e, he, rfl⟩ := List.mem_map.1 ho
              exact ⟨Sc.raw_ok e.1 (HO1.out e he).1, Sc.raw_may e.1 (HO1.out e he).1⟩
            have hcan : ∀ o ∈ ops, o.can := fun o ho => by
              rw [hops] at ho
              obtain ⟨e, he, rfl⟩ := List.mem_map.1 ho
              exact Sc.raw_can e.1 (HO1.out e he).1
            have hcl : ∀ o ∈ ops, Sc.cl o.name := fun o ho => by
              rw [hops] at ho
              obtain ⟨e, he, rfl⟩ := List.mem_map.1 ho
              exact Sc.raw_cl e.1
            have hnt : note.data.toList.length ≤ 30 := by have := size_data note; omega
            -- the first text's ops
            have hpp := Sc.parse_print Dy.parse Dy.text Dy.inY Dy.day_tok ops hokm (by omega) (by rw [← htx]; omega)
            rw [← htx] at hpp
            have hcan1 := can_bare (Sc.place_bare Dy.text 1 ops 0) hcan (fun o ho => by have := place_pos Dy.text ops 0 o ho; rw [← htx] at this; omega)
            -- the second one's
            obtain ⟨l2, hl2⟩ : ∃ l, l = 35 :: (note.data.toList ++ [10]) ++ ops.flatMap (Sc.textN Dy.text note.data.toList) := ⟨_, rfl⟩
            have hfl := flat_textN note.data.toList ops
            have hmu : (note.data.toList.length + 4) * ops.length ≤ 34 * 20 := Nat.mul_le_mul (by omega) hol
            have hl2n : l2.length ≤ 65536 := by
              rw [hl2, List.length_append, hfl, ← htx]
              simp only [List.length_cons, List.length_append, List.length_nil]
              omega
            obtain ⟨r2, hr2, hbr, hpr2⟩ := Sc.parse_notes Dy.parse Dy.text Dy.inY Dy.day_tok note.data.toList H30.out.2.2 ops hokm (by omega) (by rw [← hl2]; exact hl2n)
            rw [← hl2] at hr2
            have hcan2 := can_bare hbr hcan (fun o ho => by have := hpr2 o ho; omega)
            have hrp := Sc.replace_print note.data.toList ops hcl
            rw [← htx] at hrp
            have hct := count_print ops hcl
            rw [← htx] at hct
            have hbb : (Sc.place Dy.text 1 0 ops).map Sc.Op.bare = r2.map Sc.Op.bare := (Sc.place_bare Dy.text 1 ops 0).trans hbr.symm
            have hpl : (Sc.place Dy.text 1 0 ops).length ≤ 1000000 := by
              have := congrArg List.length (Sc.place_bare Dy.text 1 ops 0)
              simp only [List.length_map] at this
              omega
            obtain ⟨q1, hq1⟩ : ∃ q, q = Sc.place Dy.text 1 0 ops := ⟨_, rfl⟩
            rw [← hq1] at hpp hcan1 hbb hpl
            have HP := Lib.hid (And.intro hpp (And.intro hr2 (And.intro hbb (And.intro hcan1 (And.intro hcan2 hpl)))))
            obtain ⟨Z, hZ⟩ : ∃ Z : ByteArray, Z = ⟨#[35]⟩ ++ note ++ ⟨#[10]⟩ ++ ⟨(ops.flatMap (Sc.textN Dy.text note.data.toList)).toArray⟩ := ⟨_, rfl⟩
            have hZl : l2 = Z.data.toList := by rw [hZ, hl2]; simp
            have HRP : Hid (∀ wx, Glb13 wx → Calls Tryz.prog 25 #[.string S, .string ⟨#[59, 10]⟩, .string (⟨#[32, 35]⟩ ++ note ++ ⟨#[10, 59, 10, 10]⟩)] wx fun e w' => e = .returned (.string ⟨(ops.flatMap (Sc.textN Dy.text note.data.toList)).toArray⟩) ∧ Below wx.heap.size wx w') := Lib.hid (fun wx hx => by
              obtain ⟨m, hm⟩ := hx.g5.glb.maxlen
              have hS1 : S.data.toList = tx := by rw [hSe]
              have hn1 : (⟨#[32, 35]⟩ ++ note ++ ⟨#[10, 59, 10, 10]⟩ : ByteArray).data.toList = 32 :: 35 :: (note.data.toList ++ [10, 59, 10, 10]) := by simp
              have hns : (⟨#[32, 35]⟩ ++ note ++ ⟨#[10, 59, 10, 10]⟩ : ByteArray).size ≤ 36 := by
                rw [ByteArray.size_append, ByteArray.size_append]
                have h1 : (⟨#[32, 35]⟩ : ByteArray).size = 2 := rfl
                have h2 : (⟨#[10, 59, 10, 10]⟩ : ByteArray).size = 4 := rfl
                omega
              have hcb : Lib.countB S ⟨#[59, 10]⟩ ≤ 20 := by
                show Lib.count S.data.toList [59, 10] ≤ 20
                rw [hS1, hct]
                exact hol
              have h := Tryz.strings_ReplaceAll S ⟨#[59, 10]⟩ (⟨#[32, 35]⟩ ++ note ++ ⟨#[10, 59, 10, 10]⟩) m wx (by omega) hm (by decide) (by
                have := Nat.mul_le_mul hcb hns
                omega)
              rw [hS1, hn1] at h
              rw [← hrp]
              exact h)
            have HZ := Lib.hid (And.intro hZ hZl)
            have HP1 := Lib.hid (pparse_any S tx (by rw [hSe]) wr (HM.out.below HBZ.out))
            obtain ⟨R, hR⟩ : ∃ R : ByteArray, R = ⟨(ops.flatMap (Sc.textN Dy.text note.data.toList)).toArray⟩ := ⟨_, rfl⟩
            have hRz : R.size ≤ 60000 := by
              have : R.size = (ops.flatMap (Sc.textN Dy.text note.data.toList)).length := by rw [hR]; exact List.size_toArray
              rw [this, hfl, ← htx]
              omega
            rw [← hR] at HRP
            have HZ' := HZ
            rw [← hR] at HZ'
            have hn30 := H30.out.2.1
            have f1 : 1 + note.size ≤ 9223372036854775807 := by omega
            have f2 : 1 + note.size + 1 ≤ 9223372036854775807 := by omega
            have f3 : 2 + note.size ≤ 9223372036854775807 := by omega
            have f4 : 2 + note.size + 4 ≤ 9223372036854775807 := by omega
            have f5 : 1 + note.size + 1 + R.size ≤ 9223372036854775807 := by omega
            clear hops htx hSe hSz htl hol hokm hcan hcl hnt hpp hcan1 hl2 hfl hmu hl2n hr2 hbr hpr2 hcan2 hrp hct hbb hpl hq1 hZ hZl HZ hR hRz hn30 h30
            go_wp2_with fail
            refine HP1.out.mono ?_
            rintro e2 w2' ⟨hrr, hb2⟩
            obtain ⟨p1, n1, c1, x1, er1, rfl, h1⟩ := parse_out hrr
            rcases h1 with ⟨pp, cc, he, _⟩ | ⟨ops1, vals1, he, hv1, rfl, rfl, rfl, hE1', hok1'⟩
            · exact absurd (HP.out.1.symm.trans he) (by intro h; cases h)
            obtain rfl : q1 = ops1 := Except.ok.inj (HP.out.1.symm.trans he)
            have H1 := Lib.hid (And.intro hv1 (And.intro hE1' hok1'))
            have HB2' := Lib.hid (below_then HBZ.out hb2)
            clear hrr hb2 he hv1 hE1' hok1' HP1
            go_wp2_with fail
            refine (HRP.out w2' (HM.out.below HB2'.out)).mono ?_
            rintro _ w3' ⟨rfl, hb3⟩
            have HB3' := Lib.hid (below_then HB2'.out hb3)
            have HB23 := Lib.hid hb3
            clear hb3
            go_wp2_with fail
            rw [← HZ'.out.1]
            refine (pparse_any Z l2 HZ'.out.2 w3' (HM.out.below HB3'.out)).mono ?_
            rintro e3 w4' ⟨hrr, hb4⟩
            obtain ⟨p2, n2, c2, x2, er2, rfl, h2⟩ := parse_out hrr
            rcases h2 with ⟨pp, cc, he, _⟩ | ⟨ops2, vals2, he, hv2, rfl, rfl, rfl, hE2', hok2'⟩
            · exact absurd (HP.out.2.1.symm.trans he) (by intro h; cases h)
            obtain rfl : r2 = ops2 := Except.ok.inj (HP.out.2.1.symm.trans he)
            have H2 := Lib.hid (And.intro hv2 (And.intro hE2' hok2'))
            have HB4' := Lib.hid (below_then HB3'.out hb4)
            have HB24 := Lib.hid (below_then HB23.out hb4)
            clear hrr hb4 he hv2 hE2' hok2'
            have hp := HP.out.2.2
            have hlen : vals1.length ≤ 1000000 := by have := hp.2.2.2; rw [← H1.out.1, List.length_map] at this; exact this
            have hs := sameO_any p1 p2 c1 c2 vals1 vals2 w4' (H1.out.2.1.below HB24.out) H2.out.2.1 (fun e he => ⟨hp.2.1 e.1 (by rw [← H1.out.1]; exact List.mem_map_of_mem he), okP_only (H1.out.2.2 e he) (Only.of_below (S := fun _ => False) HB24.out) (fun _ _ h => h)⟩) (fun e he => ⟨hp.2.2.1 e.1 (by rw [← H2.out.1]; exact List.mem_map_of_mem he), H2.out.2.2 e he⟩) hlen
            have hsl : sameL vals1 vals2 = true := (sameL_iff vals1 vals2).2 (by
              have h := hp.1
              rw [← H1.out.1, ← H2.out.1, List.map_map, List.map_map] at h
              exact h)
            rw [hsl] at hs
            have HS := Lib.hid hs
            clear hs hsl hlen hp
            go_wp2_with fail
            refine HS.out.mono ?_
            rintro _ w5' ⟨rfl, hb5⟩
            have HB5' := Lib.hid (below_then HB4'.out hb5)
            clear hb5
            go_wp2_with fail
            go_ret
            exact ⟨rfl, HB5'.out⟩
end Go.Proofs.YtbhjkddjgikaiaaGreatDoor
