import Derived.Test.YtbnhodpbamijkaaGreatDoorOwnCnt13
import Derived.Test.YtbnhodpbamijkaaGreatDoorOwnSame13e
namespace Go.Proofs.YtbnhodpbamijkaaGreatDoor
open Go.RowKit
set_option linter.unusedVariables false
set_option linter.unusedSimpArgs false
theorem texts_len : ∀ (l : List Sc.Op), (∀ o ∈ l, o.can) → (l.flatMap (Sc.text Dy.text)).length ≤ 20000 * l.length
  | [], _ => by simp
  | o :: l, h => by
    have h1 := texts_len l fun x hx => h x (List.mem_cons_of_mem _ hx)
    have h2 := otext_len o (h o (by simp))
    rw [List.flatMap_cons, List.length_append, List.length_cons]
    omega
theorem same_str (v1 v2 : List (Sc.Op × Value × Value)) (h1 : ∀ e ∈ v1, e.1.ok Dy.inY ∧ e.1.may) (h2 : ∀ e ∈ v2, e.1.ok Dy.inY ∧ e.1.may) (n1 : v1.length ≤ 100) (n2 : v2.length ≤ 100) :
    sameL v1 v2 = decide ((v1.map (·.1)).flatMap (Sc.text Dy.text) = (v2.map (·.1)).flatMap (Sc.text Dy.text)) := by
  have k := Sc.texts_inj Dy.parse Dy.text Dy.inY Dy.day_tok (v1.map (·.1)) (v2.map (·.1)) (fun o ho => by
    obtain ⟨e, he, rfl⟩ := List.mem_map.1 ho
    exact h1 e he) (fun o ho => by
    obtain ⟨e, he, rfl⟩ := List.mem_map.1 ho
    exact h2 e he) (by rw [List.length_map]; exact n1) (by rw [List.length_map]; exact n2)
  have k2 := sameL_iff v1 v2
  rw [List.map_map, List.map_map] at k
  have k3 : sameL v1 v2 = true ↔ (v1.map (·.1)).flatMap (Sc.text Dy.text) = (v2.map (·.1)).flatMap (Sc.text Dy.text) := k2.trans k.symm
  rw [Bool.eq_iff_iff, k3, decide_eq_true_iff]
set_option maxHeartbeats 16000000 in
set_option maxRecDepth 100000 in
theorem scriptSames_law (a1 : Option Addr) (len1 cap1 : Nat) (l1 : List (Sc.O × Value × Value)) (a2 : Option Addr) (len2 cap2 : Nat) (l2 : List (Sc.O × Value × Value)) (an : Nat) (same : Bool) (w : World) (hM : Glb13 w) (hl1 : l1.length = len1) (hl2 : l2.length = len2)
    (hok1 : ∀ x ∈ l1, okO w x) (hok2 : ∀ x ∈ l2, okO w x) (hE1 : ElsAt ovE 7 o0 w a1 l1) (hE2 : ElsAt ovE 7 o0 w a2 l2) (hlm1 : len1 ≤ 9223372036854775807) (hlm2 : len2 ≤ 9223372036854775807) (hat : an ≤ 255) :
    Calls Tryz.prog 9 #[.slice a1 len1 cap1, .slice a2 len2 cap2, .int .u8 (an : Int), .bool same] w fun e w' => e = .returned (.bool true) ∧ Below w.heap.size w w' := by
  subst hl1
  subst hl2
  have HA := Lib.hid (awake13 w hM)
  have HE1 := Lib.hid hE1
  have HO1 := Lib.hid hok1
  have HE2 := Lib.hid hE2
  have HO2 := Lib.hid hok2
  have HM := Lib.hid hM
  have HAT := Lib.hid hat
  clear hM hat hok1 hE1 hok2 hE2
  go_enter Tryz.func9, Tryz.ntmps9
  go_wp2_with fail
  refine HA.out.mono ?_
  rintro _ w1 ⟨rfl, hb1⟩
  have HBS := Lib.hid hb1
  clear hb1
  by_cases h1 : 30 < l1.length
  · have j1 : (30 : Int) < (l1.length : Int) := by omega
    go_wp2_with fail
    go_ret
    exact ⟨rfl, HBS.out⟩
  · have j1 : ¬ (30 : Int) < (l1.length : Int) := by omega
    by_cases h2 : 30 < l2.length
    · have j2 : (30 : Int) < (l2.length : Int) := by omega
      go_wp2_with fail
      go_ret
      exact ⟨rfl, HBS.out⟩
    · have j2 : ¬ (30 : Int) < (l2.length : Int) := by omega
      have H30 := Lib.hid (And.intro h1 h2)
      clear h1 h2 hlm1 hlm2
      cases same
      · go_wp2_with fail
        clear j1 j2
        go_loopw [9, 11, 32] (fun sv st iv wr => ∃ (k : Nat) (v : Value) (vals : List (Sc.Op × Value × Value)), k ≤ l1.length ∧ iv = .int .i64 (k : Int) ∧ v = sv ∧ st = .string ⟨((vals.map (·.1)).flatMap (Sc.text Dy.text)).toArray⟩ ∧ wr.ownsRow w1.heap.size 53 8 v k (vals.flatMap opE) ∧ (∀ e ∈ vals, (okE wr e ∧ away wr e v.ownBlock) ∧ e.1.ok Dy.inY ∧ e.1.may) ∧ Below w1.heap.size w1 wr) (fun _ _ iv _ => l1.length - (intOf iv).toNat)
        case atStart => exact ⟨0, _, [], by omega, rfl, rfl, rfl, ⟨rfl, .inl ⟨rfl, rfl⟩⟩, (fun e he => by cases he), Below.refl _ _⟩
        case round =>
          obtain ⟨k, sv, vals1, hk, rfl, rfl, rfl, hown, hall, BB⟩ := hrel
          have h30 := H30.out
          have hlv : vals1.length = k := (els_ownG opE 8 opE0 (fun _ => rfl) (by omega) hown).1
          have htl := texts_len (vals1.map (·.1)) (fun o ho => by
            obtain ⟨e, he, rfl⟩ := List.mem_map.1 ho
            exact (hall e he).1.1.1)
          rw [List.length_map, hlv] at htl
          obtain ⟨tx, htx⟩ : ∃ t, t = (vals1.map (·.1)).flatMap (Sc.text Dy.text) := ⟨_, rfl⟩
          rw [← htx] at htl ⊢
          have HTX1 := Lib.hid htx
          have HTL := Lib.hid htl
          have HLV1 := Lib.hid hlv
          have HOW1 := Lib.hid hown
          have HAL1 := Lib.hid hall
          have HB1 := Lib.hid BB
          have HBZ := Lib.hid (Below.trans HBS.out (below_base BB HBS.out.size))
          clear hown hall BB htx htl hlv
          by_cases hlt : k < l1.length
          · have i0 : (0 : Int) ≤ (k : Int) := by omega
            have i1 : (k : Int) < (l1.length : Int) := by omega
            obtain ⟨b, off, rfl, hcc⟩ : ∃ b off, a1 = some ⟨b, off, none⟩ ∧ ∀ i, i < l1.length → w.rangeAt b (off + i * 7) (ovE (l1.getD i o0)) := by
              rcases HE1.out with h | h
              · rw [h] at hlt; simp at hlt
              · exact h
            have ck := range_below (hcc k hlt) HBZ.out
            have hq0 := HO1.out _ (getD_mem (d := o0) hlt)
            have hq := okO_below hq0 HBZ.out
            generalize l1.getD k o0 = q at ck hq hq0
            obtain ⟨x, vp, vl⟩ := q
            have HRC := Lib.hid (Sc.raw_can x hq.1)
            have HRM := Lib.hid (And.intro (Sc.raw_ok x hq.1) (Sc.raw_may x hq.1))
            have HQ := Lib.hid hq
            have HQ0 := Lib.hid hq0
            have HLT := Lib.hid hlt
            have e9 : IntKind.i64.wrap ((k : Int) + 1) = (k : Int) + 1 := by rw [IntKind.wrap_i64]; omega
            have c0 : wr.cell? ⟨b, off + k * 7, none⟩ = some (.int .u8 (x.kind : Int)) := ck 0 _ rfl
            have c1 : wr.cell? ⟨b, off + k * 7 + 1, none⟩ = some (.int .u8 (x.a : Int)) := ck 1 _ rfl
            have c2 : wr.cell? ⟨b, off + k * 7 + 2, none⟩ = some (.int .u8 (x.b : Int)) := ck 2 _ rfl
            have c3 : wr.cell? ⟨b, off + k * 7 + 3, none⟩ = some (.int .u8 (x.nm : Int)) := ck 3 _ rfl
            have c4 : wr.cell? ⟨b, off + k * 7 + 4, none⟩ = some vp := ck 4 _ rfl
            have c5 : wr.cell? ⟨b, off + k * 7 + 5, none⟩ = some (.int .i16 x.first) := ck 5 _ rfl
            have c6 : wr.cell? ⟨b, off + k * 7 + 6, none⟩ = some vl := ck 6 _ rfl
            clear hlt hcc ck hq hq0
            obtain ⟨pp, np, cp, rfl⟩ : ∃ p n c, vp = .slice p n c := by obtain ⟨p, c, e, _⟩ := HQ.out.2.1; exact ⟨_, _, _, e⟩
            obtain ⟨ps, ns, cs, rfl⟩ : ∃ p n c, vl = .slice p n c := by obtain ⟨p, c, e, _⟩ := HQ.out.2.2; exact ⟨_, _, _, e⟩
            go_wp2_with fail
            have BA := below_alloc (Below.refl _ wr) (.cells (ov x (.slice pp np cp) (.slice ps ns cs)).toArray 46)
            have RO : Row (wr.alloc (.cells (ov x (.slice pp np cp) (.slice ps ns cs)).toArray 46)) wr.heap.size #[.int .u8 (x.kind : Int), .int .u8 (x.a : Int), .int .u8 (x.b : Int), .int .u8 (x.nm : Int), .slice pp np cp, .int .i16 x.first, .slice ps ns cs] 46 := Row.new wr _ _
            have hqa := okO_below HQ.out BA
            refine (raw_any x HQ.out.1 _ _ (wr.alloc (.cells (ov x (.slice pp np cp) (.slice ps ns cs)).toArray 46)) hqa.2.1 hqa.2.2).mono ?_
            rintro _ w2' ⟨v1, v2, rfl, hp, hn, hf1, hf2, hb2⟩
            have RO2 := RO.below hb2
            have B2 := below_then BA hb2
            have hsz2 := BA.size
            have hsz3 := B2.size
            obtain ⟨q1, m1, y1, rfl⟩ : ∃ p n c, v1 = .slice p n c := by obtain ⟨p, c, e, _⟩ := hp; exact ⟨_, _, _, e⟩
            obtain ⟨q2, m2, y2, rfl⟩ : ∃ p n c, v2 = .slice p n c := by obtain ⟨p, c, e, _⟩ := hn; exact ⟨_, _, _, e⟩
            have hraw := raw_any x HQ.out.1
            obtain ⟨ro, hro⟩ : ∃ o, o = Sc.raw x := ⟨_, rfl⟩
            rw [← hro] at hp hn HRC HRM ⊢
            rw [← hro] at hraw
            have HRAW := Lib.hid hraw
            have haw : ∀ g, ((Value.slice q1 m1 y1).ownBlock = some g ∨ (Value.slice q2 m2 y2).ownBlock = some g) → g < w2'.heap.size ∧ sv.ownBlock ≠ some g := fun g hg => by
              have h1 : (wr.alloc (.cells (ov x (.slice pp np cp) (.slice ps ns cs)).toArray 46)).heap.size ≤ g ∧ g < w2'.heap.size := by
                rcases hg with hg | hg
                · exact hf1 g hg
                · exact hf2 g hg
              refine ⟨h1.2, fun e => ?_⟩
              have := (ownW_lt HOW1.out e).2
              omega
            have hall2 : ∀ e ∈ vals1 ++ [(ro, Value.slice q1 m1 y1, Value.slice q2 m2 y2)], (okE w2' e ∧ ∀ g, (e.2.1.ownBlock = some g ∨ e.2.2.ownBlock = some g) → g < w2'.heap.size ∧ sv.ownBlock ≠ some g) ∧ e.1.ok Dy.inY ∧ e.1.may := fun e he => by
              rcases List.mem_append.1 he with he | he
              · have hh := HAL1.out e he
                exact ⟨⟨okE_below hh.1.1 B2, fun g hg => by have := hh.1.2 g hg; exact ⟨by omega, this.2⟩⟩, hh.2⟩
              · obtain rfl := List.mem_singleton.1 he
                exact ⟨⟨⟨HRC.out, hp, hn⟩, haw⟩, HRM.out⟩
            have BAy := below_alloc (Below.refl _ w2') (.cells #[.int .i64 (ro.kind : Int), .int .u32 (ro.fr : Int), .int .u32 (ro.too : Int), .string ⟨ro.name.toArray⟩, .slice q1 m1 y1, .slice q2 m2 y2, .int .i32 ro.fin, .int .i64 (ro.pos : Int)] 53)
            have BYW := below_alloc (below_then HB1.out B2) (.cells #[.int .i64 (ro.kind : Int), .int .u32 (ro.fr : Int), .int .u32 (ro.too : Int), .string ⟨ro.name.toArray⟩, .slice q1 m1 y1, .slice q2 m2 y2, .int .i32 ro.fin, .int .i64 (ro.pos : Int)] 53)
            obtain ⟨v6, w6, hr6, ho6, hb6, hk6, hv6, hsz6⟩ := append_op (w2'.alloc (.cells #[.int .i64 (ro.kind : Int), .int .u32 (ro.fr : Int), .int .u32 (ro.too : Int), .string ⟨ro.name.toArray⟩, .slice q1 m1 y1, .slice q2 m2 y2, .int .i32 ro.fin, .int .i64 (ro.pos : Int)] 53)) w1.heap.size 41 sv k vals1 (own_alloc (ownW_below HOW1.out B2) _) w2'.heap.size ro q1 q2 m1 m2 y1 y2 (Row.new w2' _ _) (by omega) BYW.size
            have hs2 := BAy.size
            have RO6 : Row w6 wr.heap.size #[.int .u8 (x.kind : Int), .int .u8 (x.a : Int), .int .u8 (x.b : Int), .int .u8 (x.nm : Int), .slice pp np cp, .int .i16 x.first, .slice ps ns cs] 46 := (hk6 wr.heap.size (RO2.alloc _).lt (fun e => by have := (ownW_lt HOW1.out e).2; omega)).trans (RO2.alloc _)
            have hall6 : ∀ e ∈ vals1 ++ [(ro, Value.slice q1 m1 y1, Value.slice q2 m2 y2)], (okE w6 e ∧ away w6 e v6.ownBlock) ∧ e.1.ok Dy.inY ∧ e.1.may := fun e he => by
              have key := hall2 e he
              refine ⟨⟨okE_kept (okE_below key.1.1 BAy) (o := sv.ownBlock) (fun g hg => by have := key.1.2 g hg; exact ⟨by omega, this.2⟩) hk6, fun g hg => ?_⟩, key.2⟩
              have hgg := key.1.2 g hg
              refine ⟨by omega, ?_⟩
              rcases hv6 with e | e
              · rw [e]; exact hgg.2
              · rw [e]; intro e2; injection e2 with e2; omega
            have B6 := BYW.trans hb6
            have hq6 := okO_below HQ0.out (Below.trans HBS.out (below_base B6 HBS.out.size))
            have HQ6 := Lib.hid hq6
            have HALL6 := Lib.hid hall6
            have HOW6 := Lib.hid ho6
            have HB6 := Lib.hid B6
            have HR6 := Lib.hid hr6
            clear hr6 ho6 hb6 hk6 hv6 hsz6 hall6 BAy BYW hs2 hall2 haw hro hsz2 hsz3 hp hn hf1 hf2 hb2 B2 BA hqa c0 c1 c2 c3 c4 c5 c6 h30 hk RO RO2 hraw B6 hq6
            unfold opc
            go_wp2_with (first
              | (at_builtin; refine ev_run rfl (run_app_op _ _ _ _ rfl rfl rfl HR6.out) ?_)
              | (refine ev_load (N := 42) rfl rfl 46 (Operand.tmp 14) rfl wr.heap.size rfl RO6 _ Tryz.underlying46 rfl (by kernel_rfl) ?_))
            refine (HRAW.out _ _ w6 HQ6.out.2.1 HQ6.out.2.2).mono ?_
            rintro _ w7 ⟨v3, v4, rfl, hp7, hn7, _, _, hb7⟩
            clear RO6
            go_wp2_with fail
            refine (ltext_any ro v3 v4 HRC.out w7 hp7 hn7 (HM.out.below (below_then (Below.trans HBS.out (below_base HB6.out HBS.out.size)) hb7))).mono ?_
            rintro _ w8 ⟨rfl, hb8⟩
            have B8 := below_then hb7 hb8
            have HALL8 : Hid (∀ e ∈ vals1 ++ [(ro, Value.slice q1 m1 y1, Value.slice q2 m2 y2)], (okE w8 e ∧ away w8 e v6.ownBlock) ∧ e.1.ok Dy.inY ∧ e.1.may) := Lib.hid fun e he => by
              have hh := HALL6.out e he
              exact ⟨⟨okE_below hh.1.1 B8, fun g hg => ⟨Nat.lt_of_lt_of_le (hh.1.2 g hg).1 B8.size, (hh.1.2 g hg).2⟩⟩, hh.2⟩
            have HOW8 := Lib.hid (ownW_below HOW6.out B8)
            have HB8 := Lib.hid (below_then HB6.out B8)
            have hx := otext_len ro HRC.out
            have htl := HTL.out
            have h30 := H30.out
            have hx2 : tx.length + (Sc.text Dy.text ro).length ≤ 9223372036854775807 := by have := HLT.out; omega
            clear hp7 hn7 hb7 hb8 B8 hx htl h30
            go_wp2_with fail
            refine ⟨⟨k + 1, _, vals1 ++ [(ro, .slice q1 m1 y1, .slice q2 m2 y2)], by have := HLT.out; omega, by simp, rfl, ?_, HOW8.out, HALL8.out, HB8.out⟩, by have := HLT.out; simp [intOf]; omega⟩
            rw [List.map_append, List.flatMap_append, ← HTX1.out]
            refine congrArg Value.string ?_
            apply ByteArray.ext
            simp
          · have i1 : ¬ (k : Int) < (l1.length : Int) := by omega
            obtain rfl : k = l1.length := by omega
            clear hlt hk
            have h30 := H30.out
            have HBT := HBZ
            go_wp2_with fail
            clear i1
            obtain ⟨w2, hw2⟩ : ∃ x, x = wr := ⟨_, rfl⟩
            rw [← hw2] at HOW1 HAL1 HB1 HBT ⊢
            clear HBZ hw2 h30
            go_loopw [10, 12, 49, 15] (fun sv st iv z15 wr => ∃ (k : Nat) (v : Value) (vals : List (Sc.Op × Value × Value)), k ≤ l2.length ∧ iv = .int .i64 (k : Int) ∧ v = sv ∧ st = .string ⟨((vals.map (·.1)).flatMap (Sc.text Dy.text)).toArray⟩ ∧ wr.ownsRow w2.heap.size 53 8 v k (vals.flatMap opE) ∧ (∀ e ∈ vals, (okE wr e ∧ away wr e v.ownBlock) ∧ e.1.ok Dy.inY ∧ e.1.may) ∧ Below w2.heap.size w2 wr) (fun _ _ iv _ _ => l2.length - (intOf iv).toNat)
            case atStart => exact ⟨0, _, [], by omega, rfl, rfl, rfl, ⟨rfl, .inl ⟨rfl, rfl⟩⟩, (fun e he => by cases he), Below.refl _ _⟩
            case round =>
              obtain ⟨k, sv, vals2, hk, rfl, rfl, rfl, hown, hall, BB⟩ := hrel
              have h30 := H30.out
              have hlv : vals2.length = k := (els_ownG opE 8 opE0 (fun _ => rfl) (by omega) hown).1
              have htl := texts_len (vals2.map (·.1)) (fun o ho => by
                obtain ⟨e, he, rfl⟩ := List.mem_map.1 ho
                exact (hall e he).1.1.1)
              rw [List.length_map, hlv] at htl
              obtain ⟨tx, htx⟩ : ∃ t, t = (vals2.map (·.1)).flatMap (Sc.text Dy.text) := ⟨_, rfl⟩
              rw [← htx] at htl ⊢
              have HTX2 := Lib.hid htx
              have HTL := Lib.hid htl
              have HLV2 := Lib.hid hlv
              have HOW2 := Lib.hid hown
              have HAL2 := Lib.hid hall
              have HB2 := Lib.hid BB
              have HBZ := Lib.hid (Below.trans HBT.out (below_base BB HBT.out.size))
              clear hown hall BB htx htl hlv
              by_cases hlt : k < l2.length
              · have i0 : (0 : Int) ≤ (k : Int) := by omega
                have i1 : (k : Int) < (l2.length : Int) := by omega
                obtain ⟨b, off, rfl, hcc⟩ : ∃ b off, a2 = some ⟨b, off, none⟩ ∧ ∀ i, i < l2.length → w.rangeAt b (off + i * 7) (ovE (l2.getD i o0)) := by
                  rcases HE2.out with h | h
                  · rw [h] at hlt; simp at hlt
                  · exact h
                have ck := range_below (hcc k hlt) HBZ.out
                have hq := okO_below (HO2.out _ (getD_mem (d := o0) hlt)) HBZ.out
                generalize l2.getD k o0 = q at ck hq
                obtain ⟨x, vp, vl⟩ := q
                have HRC := Lib.hid (Sc.raw_can x hq.1)
                have HRM := Lib.hid (And.intro (Sc.raw_ok x hq.1) (Sc.raw_may x hq.1))
                have HQ := Lib.hid hq
                have HLT := Lib.hid hlt
                have e9 : IntKind.i64.wrap ((k : Int) + 1) = (k : Int) + 1 := by rw [IntKind.wrap_i64]; omega
                have c0 : wr.cell? ⟨b, off + k * 7, none⟩ = some (.int .u8 (x.kind : Int)) := ck 0 _ rfl
                have c1 : wr.cell? ⟨b, off + k * 7 + 1, none⟩ = some (.int .u8 (x.a : Int)) := ck 1 _ rfl
                have c2 : wr.cell? ⟨b, off + k * 7 + 2, none⟩ = some (.int .u8 (x.b : Int)) := ck 2 _ rfl
                have c3 : wr.cell? ⟨b, off + k * 7 + 3, none⟩ = some (.int .u8 (x.nm : Int)) := ck 3 _ rfl
                have c4 : wr.cell? ⟨b, off + k * 7 + 4, none⟩ = some vp := ck 4 _ rfl
                have c5 : wr.cell? ⟨b, off + k * 7 + 5, none⟩ = some (.int .i16 x.first) := ck 5 _ rfl
                have c6 : wr.cell? ⟨b, off + k * 7 + 6, none⟩ = some vl := ck 6 _ rfl
                clear hlt hcc ck hq
                obtain ⟨pp, np, cp, rfl⟩ : ∃ p n c, vp = .slice p n c := by obtain ⟨p, c, e, _⟩ := HQ.out.2.1; exact ⟨_, _, _, e⟩
                obtain ⟨ps, ns, cs, rfl⟩ : ∃ p n c, vl = .slice p n c := by obtain ⟨p, c, e, _⟩ := HQ.out.2.2; exact ⟨_, _, _, e⟩
                go_wp2_with fail
                have BA := below_alloc (Below.refl _ wr) (.cells (ov x (.slice pp np cp) (.slice ps ns cs)).toArray 46)
                have hqa := okO_below HQ.out BA
                refine (raw_any x HQ.out.1 _ _ (wr.alloc (.cells (ov x (.slice pp np cp) (.slice ps ns cs)).toArray 46)) hqa.2.1 hqa.2.2).mono ?_
                rintro _ w2' ⟨v1, v2, rfl, hp, hn, hf1, hf2, hb2⟩
                have B2 := below_then BA hb2
                have hsz2 := BA.size
                have hsz3 := B2.size
                obtain ⟨q1, m1, y1, rfl⟩ : ∃ p n c, v1 = .slice p n c := by obtain ⟨p, c, e, _⟩ := hp; exact ⟨_, _, _, e⟩
                obtain ⟨q2, m2, y2, rfl⟩ : ∃ p n c, v2 = .slice p n c := by obtain ⟨p, c, e, _⟩ := hn; exact ⟨_, _, _, e⟩
                have hr0 := Sc.raw_pos x
                obtain ⟨ro, hro⟩ : ∃ o, o = Sc.raw x := ⟨_, rfl⟩
                rw [← hro] at hp hn HRC HRM hr0 ⊢
                obtain ⟨r, hr⟩ : ∃ r, r = k * an := ⟨_, rfl⟩
                have hat := HAT.out
                have hrl : r ≤ 7650 := by
                  rw [hr]
                  have h30 := H30.out
                  have := HLT.out
                  exact Nat.le_trans (Nat.mul_le_mul (show k ≤ 30 by omega) hat) (by omega)
                have e10 : IntKind.i64.wrap ((k : Int) * (an : Int)) = (r : Int) := by rw [IntKind.wrap_i64, hr]; rw [hr] at hrl; push_cast; omega
                have e11 : IntKind.i64.wrap ((ro.pos : Int) + (r : Int)) = (r : Int) := by rw [IntKind.wrap_i64, hr0]; omega
                have e12 : IntKind.i64.wrap (an : Int) = (an : Int) := by rw [IntKind.wrap_i64]; omega
                clear hr hat
                obtain ⟨ra, hra⟩ : ∃ o : Sc.Op, o = { ro with pos := r } := ⟨_, rfl⟩
                have hrac : ra.can := by
                  obtain ⟨c1, c2, c3, c4, c5, c6, c7⟩ := HRC.out
                  rw [hra]
                  exact ⟨c1, c2, c3, c4, c5, c6, by show r ≤ _; omega⟩
                have hram : ra.ok Dy.inY ∧ ra.may := by
                  obtain ⟨⟨d1, d2, d3, d4, d5, d6, d7⟩, hm⟩ := HRM.out
                  cases hm
                  rw [hra]
                  exact ⟨⟨d1, d2, d3, d4, d5, d6, d7⟩, by constructor <;> assumption⟩
                have HRC := Lib.hid hrac
                have HRM := Lib.hid hram
                have hp : PtsAt w2' (.slice q1 m1 y1) ra.parts := by rw [hra]; exact hp
                have hn : NsAt .i32 w2' (.slice q2 m2 y2) ra.starts := by rw [hra]; exact hn
                have hCA : (#[.int .i64 (ro.kind : Int), .int .u32 (ro.fr : Int), .int .u32 (ro.too : Int), .string ⟨ro.name.toArray⟩, .slice q1 m1 y1, .slice q2 m2 y2, .int .i32 ro.fin, .int .i64 (r : Int)] : Array Value) = #[.int .i64 (ra.kind : Int), .int .u32 (ra.fr : Int), .int .u32 (ra.too : Int), .string ⟨ra.name.toArray⟩, .slice q1 m1 y1, .slice q2 m2 y2, .int .i32 ra.fin, .int .i64 (ra.pos : Int)] := by rw [hra]
                have B3 : Below w2'.heap.size w2' (w2'.alloc (.cells #[.int .i64 (ro.kind : Int), .int .u32 (ro.fr : Int), .int .u32 (ro.too : Int), .string ⟨ro.name.toArray⟩, .slice q1 m1 y1, .slice q2 m2 y2, .int .i32 ro.fin, .int .i64 (r : Int)] 53)) := below_alloc (Below.refl _ w2') _
                have R3 : Row (w2'.alloc (.cells #[.int .i64 (ro.kind : Int), .int .u32 (ro.fr : Int), .int .u32 (ro.too : Int), .string ⟨ro.name.toArray⟩, .slice q1 m1 y1, .slice q2 m2 y2, .int .i32 ro.fin, .int .i64 (r : Int)] 53)) w2'.heap.size #[.int .i64 (ro.kind : Int), .int .u32 (ro.fr : Int), .int .u32 (ro.too : Int), .string ⟨ro.name.toArray⟩, .slice q1 m1 y1, .slice q2 m2 y2, .int .i32 ro.fin, .int .i64 (r : Int)] 53 := Row.new w2' _ _
                have hS3 : (w2'.alloc (.cells #[.int .i64 (ro.kind : Int), .int .u32 (ro.fr : Int), .int .u32 (ro.too : Int), .string ⟨ro.name.toArray⟩, .slice q1 m1 y1, .slice q2 m2 y2, .int .i32 ro.fin, .int .i64 (r : Int)] 53)).heap.size = w2'.heap.size + 1 := Array.size_push _
                have BAy := below_alloc B3 (.cells #[.int .i64 (ro.kind : Int), .int .u32 (ro.fr : Int), .int .u32 (ro.too : Int), .string ⟨ro.name.toArray⟩, .slice q1 m1 y1, .slice q2 m2 y2, .int .i32 ro.fin, .int .i64 (r : Int)] 53)
                have BYW := (below_then HB2.out B2).trans ((BAy).mono (below_then HB2.out B2).size)
                have haw : ∀ g, ((Value.slice q1 m1 y1).ownBlock = some g ∨ (Value.slice q2 m2 y2).ownBlock = some g) → g < w2'.heap.size ∧ sv.ownBlock ≠ some g := fun g hg => by
                  have h1 : (wr.alloc (.cells (ov x (.slice pp np cp) (.slice ps ns cs)).toArray 46)).heap.size ≤ g ∧ g < w2'.heap.size := by
                    rcases hg with hg | hg
                    · exact hf1 g hg
                    · exact hf2 g hg
                  refine ⟨h1.2, fun e => ?_⟩
                  have := (ownW_lt HOW2.out e).2
                  omega
                have hall2 : ∀ e ∈ vals2 ++ [(ra, Value.slice q1 m1 y1, Value.slice q2 m2 y2)], (okE w2' e ∧ ∀ g, (e.2.1.ownBlock = some g ∨ e.2.2.ownBlock = some g) → g < w2'.heap.size ∧ sv.ownBlock ≠ some g) ∧ e.1.ok Dy.inY ∧ e.1.may := fun e he => by
                  rcases List.mem_append.1 he with he | he
                  · have hh := HAL2.out e he
                    exact ⟨⟨okE_below hh.1.1 B2, fun g hg => by have := hh.1.2 g hg; exact ⟨by omega, this.2⟩⟩, hh.2⟩
                  · obtain rfl := List.mem_singleton.1 he
                    exact ⟨⟨⟨HRC.out, hp, hn⟩, haw⟩, HRM.out⟩
                obtain ⟨v6, w6, hr6, ho6, hb6, hk6, hv6, hsz6⟩ := append_op ((w2'.alloc (.cells #[.int .i64 (ro.kind : Int), .int .u32 (ro.fr : Int), .int .u32 (ro.too : Int), .string ⟨ro.name.toArray⟩, .slice q1 m1 y1, .slice q2 m2 y2, .int .i32 ro.fin, .int .i64 (r : Int)] 53)).alloc (.cells #[.int .i64 (ro.kind : Int), .int .u32 (ro.fr : Int), .int .u32 (ro.too : Int), .string ⟨ro.name.toArray⟩, .slice q1 m1 y1, .slice q2 m2 y2, .int .i32 ro.fin, .int .i64 (r : Int)] 53)) w2.heap.size 41 sv k vals2 (own_alloc (ownW_below (ownW_below HOW2.out B2) B3) _) (w2'.heap.size + 1) ra q1 q2 m1 m2 y1 y2 (by rw [show (opc ra (.slice q1 m1 y1) (.slice q2 m2 y2)).toArray = #[.int .i64 (ro.kind : Int), .int .u32 (ro.fr : Int), .int .u32 (ro.too : Int), .string ⟨ro.name.toArray⟩, .slice q1 m1 y1, .slice q2 m2 y2, .int .i32 ro.fin, .int .i64 (r : Int)] from hCA.symm]; exact Row.new' _ _ _ hS3.symm) (by omega) BYW.size
                have hs2 := BAy.size
                have hgl : w2'.heap.size < (w2'.alloc (.cells #[.int .i64 (ro.kind : Int), .int .u32 (ro.fr : Int), .int .u32 (ro.too : Int), .string ⟨ro.name.toArray⟩, .slice q1 m1 y1, .slice q2 m2 y2, .int .i32 ro.fin, .int .i64 (r : Int)] 53)).heap.size := R3.lt
                have RO6 : Row w6 w2'.heap.size #[.int .i64 (ra.kind : Int), .int .u32 (ra.fr : Int), .int .u32 (ra.too : Int), .string ⟨ra.name.toArray⟩, .slice q1 m1 y1, .slice q2 m2 y2, .int .i32 ra.fin, .int .i64 (ra.pos : Int)] 53 := by rw [← hCA]; exact (hk6 w2'.heap.size (R3.alloc _).lt (fun e => by have := (ownW_lt HOW2.out e).2; omega)).trans (R3.alloc _)
                have hall6 : ∀ e ∈ vals2 ++ [(ra, Value.slice q1 m1 y1, Value.slice q2 m2 y2)], (okE w6 e ∧ away w6 e v6.ownBlock) ∧ e.1.ok Dy.inY ∧ e.1.may := fun e he => by
                  have key := hall2 e he
                  refine ⟨⟨okE_kept (okE_below key.1.1 BAy) (o := sv.ownBlock) (fun g hg => by have := key.1.2 g hg; exact ⟨by omega, this.2⟩) hk6, fun g hg => ?_⟩, key.2⟩
                  have hgg := key.1.2 g hg
                  refine ⟨by omega, ?_⟩
                  rcases hv6 with e | e
                  · rw [e]; exact hgg.2
                  · rw [e]; intro e2; injection e2 with e2; omega
                have B6 := BYW.trans hb6
                have hl6 := hall6 (ra, .slice q1 m1 y1, .slice q2 m2 y2) (by simp)
                have HP6 := Lib.hid hl6.1.1
                have HALL6 := Lib.hid hall6
                have HOW6 := Lib.hid ho6
                have HB6 := Lib.hid B6
                have HR6 := Lib.hid hr6
                have HCA := Lib.hid hCA
                clear hCA hra hr0 hr6 ho6 hb6 hk6 hv6 hsz6 hall6 BAy BYW hs2 hall2 haw hro hsz2 hsz3 hp hn hf1 hf2 hb2 B2 B3 BA hqa c0 c1 c2 c3 c4 c5 c6 h30 hk B6 hl6 hgl R3 hS3
                unfold opc
                go_wp2_with (first
                  | (at_builtin; refine ev_run rfl (run_app_op _ _ _ _ rfl rfl rfl HR6.out) ?_)
                  | (refine ev_load (N := 69) rfl rfl 53 (Operand.tmp 17) rfl w2'.heap.size rfl RO6 _ Tryz.underlying53 rfl (by kernel_rfl) ?_))
                refine (ltext_any ra (.slice q1 m1 y1) (.slice q2 m2 y2) HRC.out w6 HP6.out.2.1 HP6.out.2.2 (HM.out.below (Below.trans HBT.out (below_base HB6.out HBT.out.size)))).mono ?_
                rintro _ w8 ⟨rfl, hb8⟩
                have HALL8 : Hid (∀ e ∈ vals2 ++ [(ra, Value.slice q1 m1 y1, Value.slice q2 m2 y2)], (okE w8 e ∧ away w8 e v6.ownBlock) ∧ e.1.ok Dy.inY ∧ e.1.may) := Lib.hid fun e he => by
                  have hh := HALL6.out e he
                  exact ⟨⟨okE_below hh.1.1 hb8, fun g hg => ⟨Nat.lt_of_lt_of_le (hh.1.2 g hg).1 hb8.size, (hh.1.2 g hg).2⟩⟩, hh.2⟩
                have HOW8 := Lib.hid (ownW_below HOW6.out hb8)
                have HB8 := Lib.hid (below_then HB6.out hb8)
                have hx := otext_len ra HRC.out
                have htl := HTL.out
                have h30 := H30.out
                have hx2 : tx.length + (Sc.text Dy.text ra).length ≤ 9223372036854775807 := by have := HLT.out; omega
                clear RO6 hb8 hx htl h30
                go_wp2_with fail
                refine ⟨⟨k + 1, _, vals2 ++ [(ra, .slice q1 m1 y1, .slice q2 m2 y2)], by have := HLT.out; omega, by simp, rfl, ?_, HOW8.out, HALL8.out, HB8.out⟩, by have := HLT.out; simp [intOf]; omega⟩
                rw [List.map_append, List.flatMap_append, ← HTX2.out]
                refine congrArg Value.string ?_
                apply ByteArray.ext
                simp
              · have i1 : ¬ (k : Int) < (l2.length : Int) := by omega
                obtain rfl : k = l2.length := by omega
                clear hlt hk
                have how1 := ownW_below HOW1.out HB2.out
                obtain ⟨hlA, pA, cA, rfl, hEA⟩ := els_ownG opE 8 opE0 (fun _ => rfl) (by omega) how1
                obtain ⟨hlB, pB, cB, rfl, hEB⟩ := els_ownG opE 8 opE0 (fun _ => rfl) (by omega) HOW2.out
                have h30 := H30.out
                have hal1 : ∀ e ∈ vals1, okE wr e := fun e he => okE_below (HAL1.out e he).1.1 HB2.out
                have hal2 : ∀ e ∈ vals2, okE wr e := fun e he => (HAL2.out e he).1.1
                have hS := sameO_any pA pB cA cB vals1 vals2 wr hEA hEB hal1 hal2 (by omega)
                have hq := same_str vals1 vals2 (fun e he => (HAL1.out e he).2) (fun e he => (HAL2.out e he).2) (by omega) (by omega)
                rw [← HTX1.out, ← HTX2.out] at hq
                have HS := Lib.hid hS
                have HQQ := Lib.hid hq
                clear how1 hlA hlB hEA hEB h30 hal1 hal2 hS hq
                go_wp2_with fail
                refine HS.out.mono ?_
                rintro _ w3 ⟨rfl, hb3⟩
                have HB3 := Lib.hid hb3
                clear hb3
                go_wp2_with fail
                go_ret
                exact ⟨congrArg (fun b => Ending.returned (Value.bool b)) (by rw [HQQ.out]; exact beq_iff_eq.2 (by rw [Bool.eq_iff_iff]; simp)), below_then HBZ.out HB3.out⟩
      · go_wp2_with fail
        clear j1 j2
        go_loopw [9, 11, 32] (fun sv st iv wr => ∃ (k : Nat) (v : Value) (vals : List (Sc.Op × Value × Value)), k ≤ l1.length ∧ iv = .int .i64 (k : Int) ∧ v = sv ∧ st = .string ⟨((vals.map (·.1)).flatMap (Sc.text Dy.text)).toArray⟩ ∧ wr.ownsRow w1.heap.size 53 8 v k (vals.flatMap opE) ∧ (∀ e ∈ vals, (okE wr e ∧ away wr e v.ownBlock) ∧ e.1.ok Dy.inY ∧ e.1.may) ∧ Below w1.heap.size w1 wr) (fun _ _ iv _ => l1.length - (intOf iv).toNat)
        case atStart => exact ⟨0, _, [], by omega, rfl, rfl, rfl, ⟨rfl, .inl ⟨rfl, rfl⟩⟩, (fun e he => by cases he), Below.refl _ _⟩
        case round =>
          obtain ⟨k, sv, vals1, hk, rfl, rfl, rfl, hown, hall, BB⟩ := hrel
          have h30 := H30.out
          have hlv : vals1.length = k := (els_ownG opE 8 opE0 (fun _ => rfl) (by omega) hown).1
          have htl := texts_len (vals1.map (·.1)) (fun o ho => by
            obtain ⟨e, he, rfl⟩ := List.mem_map.1 ho
            exact (hall e he).1.1.1)
          rw [List.length_map, hlv] at htl
          obtain ⟨tx, htx⟩ : ∃ t, t = (vals1.map (·.1)).flatMap (Sc.text Dy.text) := ⟨_, rfl⟩
          rw [← htx] at htl ⊢
          have HTX1 := Lib.hid htx
          have HTL := Lib.hid htl
          have HLV1 := Lib.hid hlv
          have HOW1 := Lib.hid hown
          have HAL1 := Lib.hid hall
          have HB1 := Lib.hid BB
          have HBZ := Lib.hid (Below.trans HBS.out (below_base BB HBS.out.size))
          clear hown hall BB htx htl hlv
          by_cases hlt : k < l1.length
          · have i0 : (0 : Int) ≤ (k : Int) := by omega
            have i1 : (k : Int) < (l1.length : Int) := by omega
            obtain ⟨b, off, rfl, hcc⟩ : ∃ b off, a1 = some ⟨b, off, none⟩ ∧ ∀ i, i < l1.length → w.rangeAt b (off + i * 7) (ovE (l1.getD i o0)) := by
              rcases HE1.out with h | h
              · rw [h] at hlt; simp at hlt
              · exact h
            have ck := range_below (hcc k hlt) HBZ.out
            have hq0 := HO1.out _ (getD_mem (d := o0) hlt)
            have hq := okO_below hq0 HBZ.out
            generalize l1.getD k o0 = q at ck hq hq0
            obtain ⟨x, vp, vl⟩ := q
            have HRC := Lib.hid (Sc.raw_can x hq.1)
            have HRM := Lib.hid (And.intro (Sc.raw_ok x hq.1) (Sc.raw_may x hq.1))
            have HQ := Lib.hid hq
            have HQ0 := Lib.hid hq0
            have HLT := Lib.hid hlt
            have e9 : IntKind.i64.wrap ((k : Int) + 1) = (k : Int) + 1 := by rw [IntKind.wrap_i64]; omega
            have c0 : wr.cell? ⟨b, off + k * 7, none⟩ = some (.int .u8 (x.kind : Int)) := ck 0 _ rfl
            have c1 : wr.cell? ⟨b, off + k * 7 + 1, none⟩ = some (.int .u8 (x.a : Int)) := ck 1 _ rfl
            have c2 : wr.cell? ⟨b, off + k * 7 + 2, none⟩ = some (.int .u8 (x.b : Int)) := ck 2 _ rfl
            have c3 : wr.cell? ⟨b, off + k * 7 + 3, none⟩ = some (.int .u8 (x.nm : Int)) := ck 3 _ rfl
            have c4 : wr.cell? ⟨b, off + k * 7 + 4, none⟩ = some vp := ck 4 _ rfl
            have c5 : wr.cell? ⟨b, off + k * 7 + 5, none⟩ = some (.int .i16 x.first) := ck 5 _ rfl
            have c6 : wr.cell? ⟨b, off + k * 7 + 6, none⟩ = some vl := ck 6 _ rfl
            clear hlt hcc ck hq hq0
            obtain ⟨pp, np, cp, rfl⟩ : ∃ p n c, vp = .slice p n c := by obtain ⟨p, c, e, _⟩ := HQ.out.2.1; exact ⟨_, _, _, e⟩
            obtain ⟨ps, ns, cs, rfl⟩ : ∃ p n c, vl = .slice p n c := by obtain ⟨p, c, e, _⟩ := HQ.out.2.2; exact ⟨_, _, _, e⟩
            go_wp2_with fail
            have BA := below_alloc (Below.refl _ wr) (.cells (ov x (.slice pp np cp) (.slice ps ns cs)).toArray 46)
            have RO : Row (wr.alloc (.cells (ov x (.slice pp np cp) (.slice ps ns cs)).toArray 46)) wr.heap.size #[.int .u8 (x.kind : Int), .int .u8 (x.a : Int), .int .u8 (x.b : Int), .int .u8 (x.nm : Int), .slice pp np cp, .int .i16 x.first, .slice ps ns cs] 46 := Row.new wr _ _
            have hqa := okO_below HQ.out BA
            refine (raw_any x HQ.out.1 _ _ (wr.alloc (.cells (ov x (.slice pp np cp) (.slice ps ns cs)).toArray 46)) hqa.2.1 hqa.2.2).mono ?_
            rintro _ w2' ⟨v1, v2, rfl, hp, hn, hf1, hf2, hb2⟩
            have RO2 := RO.below hb2
            have B2 := below_then BA hb2
            have hsz2 := BA.size
            have hsz3 := B2.size
            obtain ⟨q1, m1, y1, rfl⟩ : ∃ p n c, v1 = .slice p n c := by obtain ⟨p, c, e, _⟩ := hp; exact ⟨_, _, _, e⟩
            obtain ⟨q2, m2, y2, rfl⟩ : ∃ p n c, v2 = .slice p n c := by obtain ⟨p, c, e, _⟩ := hn; exact ⟨_, _, _, e⟩
            have hraw := raw_any x HQ.out.1
            obtain ⟨ro, hro⟩ : ∃ o, o = Sc.raw x := ⟨_, rfl⟩
            rw [← hro] at hp hn HRC HRM ⊢
            rw [← hro] at hraw
            have HRAW := Lib.hid hraw
            have haw : ∀ g, ((Value.slice q1 m1 y1).ownBlock = some g ∨ (Value.slice q2 m2 y2).ownBlock = some g) → g < w2'.heap.size ∧ sv.ownBlock ≠ some g := fun g hg => by
              have h1 : (wr.alloc (.cells (ov x (.slice pp np cp) (.slice ps ns cs)).toArray 46)).heap.size ≤ g ∧ g < w2'.heap.size := by
                rcases hg with hg | hg
                · exact hf1 g hg
                · exact hf2 g hg
              refine ⟨h1.2, fun e => ?_⟩
              have := (ownW_lt HOW1.out e).2
              omega
            have hall2 : ∀ e ∈ vals1 ++ [(ro, Value.slice q1 m1 y1, Value.slice q2 m2 y2)], (okE w2' e ∧ ∀ g, (e.2.1.ownBlock = some g ∨ e.2.2.ownBlock = some g) → g < w2'.heap.size ∧ sv.ownBlock ≠ some g) ∧ e.1.ok Dy.inY ∧ e.1.may := fun e he => by
              rcases List.mem_append.1 he with he | he
              · have hh := HAL1.out e he
                exact ⟨⟨okE_below hh.1.1 B2, fun g hg => by have := hh.1.2 g hg; exact ⟨by omega, this.2⟩⟩, hh.2⟩
              · obtain rfl := List.mem_singleton.1 he
                exact ⟨⟨⟨HRC.out, hp, hn⟩, haw⟩, HRM.out⟩
            have BAy := below_alloc (Below.refl _ w2') (.cells #[.int .i64 (ro.kind : Int), .int .u32 (ro.fr : Int), .int .u32 (ro.too : Int), .string ⟨ro.name.toArray⟩, .slice q1 m1 y1, .slice q2 m2 y2, .int .i32 ro.fin, .int .i64 (ro.pos : Int)] 53)
            have BYW := below_alloc (below_then HB1.out B2) (.cells #[.int .i64 (ro.kind : Int), .int .u32 (ro.fr : Int), .int .u32 (ro.too : Int), .string ⟨ro.name.toArray⟩, .slice q1 m1 y1, .slice q2 m2 y2, .int .i32 ro.fin, .int .i64 (ro.pos : Int)] 53)
            obtain ⟨v6, w6, hr6, ho6, hb6, hk6, hv6, hsz6⟩ := append_op (w2'.alloc (.cells #[.int .i64 (ro.kind : Int), .int .u32 (ro.fr : Int), .int .u32 (ro.too : Int), .string ⟨ro.name.toArray⟩, .slice q1 m1 y1, .slice q2 m2 y2, .int .i32 ro.fin, .int .i64 (ro.pos : Int)] 53)) w1.heap.size 41 sv k vals1 (own_alloc (ownW_below HOW1.out B2) _) w2'.heap.size ro q1 q2 m1 m2 y1 y2 (Row.new w2' _ _) (by omega) BYW.size
            have hs2 := BAy.size
            have RO6 : Row w6 wr.heap.size #[.int .u8 (x.kind : Int), .int .u8 (x.a : Int), .int .u8 (x.b : Int), .int .u8 (x.nm : Int), .slice pp np cp, .int .i16 x.first, .slice ps ns cs] 46 := (hk6 wr.heap.size (RO2.alloc _).lt (fun e => by have := (ownW_lt HOW1.out e).2; omega)).trans (RO2.alloc _)
            have hall6 : ∀ e ∈ vals1 ++ [(ro, Value.slice q1 m1 y1, Value.slice q2 m2 y2)], (okE w6 e ∧ away w6 e v6.ownBlock) ∧ e.1.ok Dy.inY ∧ e.1.may := fun e he => by
              have key := hall2 e he
              refine ⟨⟨okE_kept (okE_below key.1.1 BAy) (o := sv.ownBlock) (fun g hg => by have := key.1.2 g hg; exact ⟨by omega, this.2⟩) hk6, fun g hg => ?_⟩, key.2⟩
              have hgg := key.1.2 g hg
              refine ⟨by omega, ?_⟩
              rcases hv6 with e | e
              · rw [e]; exact hgg.2
              · rw [e]; intro e2; injection e2 with e2; omega
            have B6 := BYW.trans hb6
            have hq6 := okO_below HQ0.out (Below.trans HBS.out (below_base B6 HBS.out.size))
            have HQ6 := Lib.hid hq6
            have HALL6 := Lib.hid hall6
            have HOW6 := Lib.hid ho6
            have HB6 := Lib.hid B6
            have HR6 := Lib.hid hr6
            clear hr6 ho6 hb6 hk6 hv6 hsz6 hall6 BAy BYW hs2 hall2 haw hro hsz2 hsz3 hp hn hf1 hf2 hb2 B2 BA hqa c0 c1 c2 c3 c4 c5 c6 h30 hk RO RO2 hraw B6 hq6
            unfold opc
            go_wp2_with (first
              | (at_builtin; refine ev_run rfl (run_app_op _ _ _ _ rfl rfl rfl HR6.out) ?_)
              | (refine ev_load (N := 42) rfl rfl 46 (Operand.tmp 14) rfl wr.heap.size rfl RO6 _ Tryz.underlying46 rfl (by kernel_rfl) ?_))
            refine (HRAW.out _ _ w6 HQ6.out.2.1 HQ6.out.2.2).mono ?_
            rintro _ w7 ⟨v3, v4, rfl, hp7, hn7, _, _, hb7⟩
            clear RO6
            go_wp2_with fail
            refine (ltext_any ro v3 v4 HRC.out w7 hp7 hn7 (HM.out.below (below_then (Below.trans HBS.out (below_base HB6.out HBS.out.size)) hb7))).mono ?_
            rintro _ w8 ⟨rfl, hb8⟩
            have B8 := below_then hb7 hb8
            have HALL8 : Hid (∀ e ∈ vals1 ++ [(ro, Value.slice q1 m1 y1, Value.slice q2 m2 y2)], (okE w8 e ∧ away w8 e v6.ownBlock) ∧ e.1.ok Dy.inY ∧ e.1.may) := Lib.hid fun e he => by
              have hh := HALL6.out e he
              exact ⟨⟨okE_below hh.1.1 B8, fun g hg => ⟨Nat.lt_of_lt_of_le (hh.1.2 g hg).1 B8.size, (hh.1.2 g hg).2⟩⟩, hh.2⟩
            have HOW8 := Lib.hid (ownW_below HOW6.out B8)
            have HB8 := Lib.hid (below_then HB6.out B8)
            have hx := otext_len ro HRC.out
            have htl := HTL.out
            have h30 := H30.out
            have hx2 : tx.length + (Sc.text Dy.text ro).length ≤ 9223372036854775807 := by have := HLT.out; omega
            clear hp7 hn7 hb7 hb8 B8 hx htl h30
            go_wp2_with fail
            refine ⟨⟨k + 1, _, vals1 ++ [(ro, .slice q1 m1 y1, .slice q2 m2 y2)], by have := HLT.out; omega, by simp, rfl, ?_, HOW8.out, HALL8.out, HB8.out⟩, by have := HLT.out; simp [intOf]; omega⟩
            rw [List.map_append, List.flatMap_append, ← HTX1.out]
            refine congrArg Value.string ?_
            apply ByteArray.ext
            simp
          · have i1 : ¬ (k : Int) < (l1.length : Int) := by omega
            obtain rfl : k = l1.length := by omega
            clear hlt hk
            have h30 := H30.out
            have HBT := HBZ
            go_wp2_with fail
            clear i1
            obtain ⟨w2, hw2⟩ : ∃ x, x = wr := ⟨_, rfl⟩
            rw [← hw2] at HOW1 HAL1 HB1 HBT ⊢
            clear HBZ hw2 h30
            go_loopw [10, 12, 49, 15] (fun sv st iv z15 wr => ∃ (k : Nat) (v : Value) (vals : List (Sc.Op × Value × Value)), k ≤ l1.length ∧ iv = .int .i64 (k : Int) ∧ v = sv ∧ st = .string ⟨((vals.map (·.1)).flatMap (Sc.text Dy.text)).toArray⟩ ∧ wr.ownsRow w2.heap.size 53 8 v k (vals.flatMap opE) ∧ (∀ e ∈ vals, (okE wr e ∧ away wr e v.ownBlock) ∧ e.1.ok Dy.inY ∧ e.1.may) ∧ Below w2.heap.size w2 wr) (fun _ _ iv _ _ => l1.length - (intOf iv).toNat)
            case atStart => exact ⟨0, _, [], by omega, rfl, rfl, rfl, ⟨rfl, .inl ⟨rfl, rfl⟩⟩, (fun e he => by cases he), Below.refl _ _⟩
            case round =>
              obtain ⟨k, sv, vals2, hk, rfl, rfl, rfl, hown, hall, BB⟩ := hrel
              have h30 := H30.out
              have hlv : vals2.length = k := (els_ownG opE 8 opE0 (fun _ => rfl) (by omega) hown).1
              have htl := texts_len (vals2.map (·.1)) (fun o ho => by
                obtain ⟨e, he, rfl⟩ := List.mem_map.1 ho
                exact (hall e he).1.1.1)
              rw [List.length_map, hlv] at htl
              obtain ⟨tx, htx⟩ : ∃ t, t = (vals2.map (·.1)).flatMap (Sc.text Dy.text) := ⟨_, rfl⟩
              rw [← htx] at htl ⊢
              have HTX2 := Lib.hid htx
              have HTL := Lib.hid htl
              have HLV2 := Lib.hid hlv
              have HOW2 := Lib.hid hown
              have HAL2 := Lib.hid hall
              have HB2 := Lib.hid BB
              have HBZ := Lib.hid (Below.trans HBT.out (below_base BB HBT.out.size))
              clear hown hall BB htx htl hlv
              by_cases hlt : k < l1.length
              · have i0 : (0 : Int) ≤ (k : Int) := by omega
                have i1 : (k : Int) < (l1.length : Int) := by omega
                obtain ⟨b, off, rfl, hcc⟩ : ∃ b off, a1 = some ⟨b, off, none⟩ ∧ ∀ i, i < l1.length → w.rangeAt b (off + i * 7) (ovE (l1.getD i o0)) := by
                  rcases HE1.out with h | h
                  · rw [h] at hlt; simp at hlt
                  · exact h
                have ck := range_below (hcc k hlt) HBZ.out
                have hq := okO_below (HO1.out _ (getD_mem (d := o0) hlt)) HBZ.out
                generalize l1.getD k o0 = q at ck hq
                obtain ⟨x, vp, vl⟩ := q
                have HRC := Lib.hid (Sc.raw_can x hq.1)
                have HRM := Lib.hid (And.intro (Sc.raw_ok x hq.1) (Sc.raw_may x hq.1))
                have HQ := Lib.hid hq
                have HLT := Lib.hid hlt
                have e9 : IntKind.i64.wrap ((k : Int) + 1) = (k : Int) + 1 := by rw [IntKind.wrap_i64]; omega
                have c0 : wr.cell? ⟨b, off + k * 7, none⟩ = some (.int .u8 (x.kind : Int)) := ck 0 _ rfl
                have c1 : wr.cell? ⟨b, off + k * 7 + 1, none⟩ = some (.int .u8 (x.a : Int)) := ck 1 _ rfl
                have c2 : wr.cell? ⟨b, off + k * 7 + 2, none⟩ = some (.int .u8 (x.b : Int)) := ck 2 _ rfl
                have c3 : wr.cell? ⟨b, off + k * 7 + 3, none⟩ = some (.int .u8 (x.nm : Int)) := ck 3 _ rfl
                have c4 : wr.cell? ⟨b, off + k * 7 + 4, none⟩ = some vp := ck 4 _ rfl
                have c5 : wr.cell? ⟨b, off + k * 7 + 5, none⟩ = some (.int .i16 x.first) := ck 5 _ rfl
                have c6 : wr.cell? ⟨b, off + k * 7 + 6, none⟩ = some vl := ck 6 _ rfl
                clear hlt hcc ck hq
                obtain ⟨pp, np, cp, rfl⟩ : ∃ p n c, vp = .slice p n c := by obtain ⟨p, c, e, _⟩ := HQ.out.2.1; exact ⟨_, _, _, e⟩
                obtain ⟨ps, ns, cs, rfl⟩ : ∃ p n c, vl = .slice p n c := by obtain ⟨p, c, e, _⟩ := HQ.out.2.2; exact ⟨_, _, _, e⟩
                go_wp2_with fail
                have BA := below_alloc (Below.refl _ wr) (.cells (ov x (.slice pp np cp) (.slice ps ns cs)).toArray 46)
                have hqa := okO_below HQ.out BA
                refine (raw_any x HQ.out.1 _ _ (wr.alloc (.cells (ov x (.slice pp np cp) (.slice ps ns cs)).toArray 46)) hqa.2.1 hqa.2.2).mono ?_
                rintro _ w2' ⟨v1, v2, rfl, hp, hn, hf1, hf2, hb2⟩
                have B2 := below_then BA hb2
                have hsz2 := BA.size
                have hsz3 := B2.size
                obtain ⟨q1, m1, y1, rfl⟩ : ∃ p n c, v1 = .slice p n c := by obtain ⟨p, c, e, _⟩ := hp; exact ⟨_, _, _, e⟩
                obtain ⟨q2, m2, y2, rfl⟩ : ∃ p n c, v2 = .slice p n c := by obtain ⟨p, c, e, _⟩ := hn; exact ⟨_, _, _, e⟩
                have hr0 := Sc.raw_pos x
                obtain ⟨ro, hro⟩ : ∃ o, o = Sc.raw x := ⟨_, rfl⟩
                rw [← hro] at hp hn HRC HRM hr0 ⊢
                obtain ⟨r, hr⟩ : ∃ r, r = k * an := ⟨_, rfl⟩
                have hat := HAT.out
                have hrl : r ≤ 7650 := by
                  rw [hr]
                  have h30 := H30.out
                  have := HLT.out
                  exact Nat.le_trans (Nat.mul_le_mul (show k ≤ 30 by omega) hat) (by omega)
                have e10 : IntKind.i64.wrap ((k : Int) * (an : Int)) = (r : Int) := by rw [IntKind.wrap_i64, hr]; rw [hr] at hrl; push_cast; omega
                have e11 : IntKind.i64.wrap ((ro.pos : Int) + (r : Int)) = (r : Int) := by rw [IntKind.wrap_i64, hr0]; omega
                have e12 : IntKind.i64.wrap (an : Int) = (an : Int) := by rw [IntKind.wrap_i64]; omega
                clear hr hat
                obtain ⟨ra, hra⟩ : ∃ o : Sc.Op, o = { ro with pos := r } := ⟨_, rfl⟩
                have hrac : ra.can := by
                  obtain ⟨c1, c2, c3, c4, c5, c6, c7⟩ := HRC.out
                  rw [hra]
                  exact ⟨c1, c2, c3, c4, c5, c6, by show r ≤ _; omega⟩
                have hram : ra.ok Dy.inY ∧ ra.may := by
                  obtain ⟨⟨d1, d2, d3, d4, d5, d6, d7⟩, hm⟩ := HRM.out
                  cases hm
                  rw [hra]
                  exact ⟨⟨d1, d2, d3, d4, d5, d6, d7⟩, by constructor <;> assumption⟩
                have HRC := Lib.hid hrac
                have HRM := Lib.hid hram
                have hp : PtsAt w2' (.slice q1 m1 y1) ra.parts := by rw [hra]; exact hp
                have hn : NsAt .i32 w2' (.slice q2 m2 y2) ra.starts := by rw [hra]; exact hn
                have hCA : (#[.int .i64 (ro.kind : Int), .int .u32 (ro.fr : Int), .int .u32 (ro.too : Int), .string ⟨ro.name.toArray⟩, .slice q1 m1 y1, .slice q2 m2 y2, .int .i32 ro.fin, .int .i64 (r : Int)] : Array Value) = #[.int .i64 (ra.kind : Int), .int .u32 (ra.fr : Int), .int .u32 (ra.too : Int), .string ⟨ra.name.toArray⟩, .slice q1 m1 y1, .slice q2 m2 y2, .int .i32 ra.fin, .int .i64 (ra.pos : Int)] := by rw [hra]
                have B3 : Below w2'.heap.size w2' (w2'.alloc (.cells #[.int .i64 (ro.kind : Int), .int .u32 (ro.fr : Int), .int .u32 (ro.too : Int), .string ⟨ro.name.toArray⟩, .slice q1 m1 y1, .slice q2 m2 y2, .int .i32 ro.fin, .int .i64 (r : Int)] 53)) := below_alloc (Below.refl _ w2') _
                have R3 : Row (w2'.alloc (.cells #[.int .i64 (ro.kind : Int), .int .u32 (ro.fr : Int), .int .u32 (ro.too : Int), .string ⟨ro.name.toArray⟩, .slice q1 m1 y1, .slice q2 m2 y2, .int .i32 ro.fin, .int .i64 (r : Int)] 53)) w2'.heap.size #[.int .i64 (ro.kind : Int), .int .u32 (ro.fr : Int), .int .u32 (ro.too : Int), .string ⟨ro.name.toArray⟩, .slice q1 m1 y1, .slice q2 m2 y2, .int .i32 ro.fin, .int .i64 (r : Int)] 53 := Row.new w2' _ _
                have hS3 : (w2'.alloc (.cells #[.int .i64 (ro.kind : Int), .int .u32 (ro.fr : Int), .int .u32 (ro.too : Int), .string ⟨ro.name.toArray⟩, .slice q1 m1 y1, .slice q2 m2 y2, .int .i32 ro.fin, .int .i64 (r : Int)] 53)).heap.size = w2'.heap.size + 1 := Array.size_push _
                have BAy := below_alloc B3 (.cells #[.int .i64 (ro.kind : Int), .int .u32 (ro.fr : Int), .int .u32 (ro.too : Int), .string ⟨ro.name.toArray⟩, .slice q1 m1 y1, .slice q2 m2 y2, .int .i32 ro.fin, .int .i64 (r : Int)] 53)
                have BYW := (below_then HB2.out B2).trans ((BAy).mono (below_then HB2.out B2).size)
                have haw : ∀ g, ((Value.slice q1 m1 y1).ownBlock = some g ∨ (Value.slice q2 m2 y2).ownBlock = some g) → g < w2'.heap.size ∧ sv.ownBlock ≠ some g := fun g hg => by
                  have h1 : (wr.alloc (.cells (ov x (.slice pp np cp) (.slice ps ns cs)).toArray 46)).heap.size ≤ g ∧ g < w2'.heap.size := by
                    rcases hg with hg | hg
                    · exact hf1 g hg
                    · exact hf2 g hg
                  refine ⟨h1.2, fun e => ?_⟩
                  have := (ownW_lt HOW2.out e).2
                  omega
                have hall2 : ∀ e ∈ vals2 ++ [(ra, Value.slice q1 m1 y1, Value.slice q2 m2 y2)], (okE w2' e ∧ ∀ g, (e.2.1.ownBlock = some g ∨ e.2.2.ownBlock = some g) → g < w2'.heap.size ∧ sv.ownBlock ≠ some g) ∧ e.1.ok Dy.inY ∧ e.1.may := fun e he => by
                  rcases List.mem_append.1 he with he | he
                  · have hh := HAL2.out e he
                    exact ⟨⟨okE_below hh.1.1 B2, fun g hg => by have := hh.1.2 g hg; exact ⟨by omega, this.2⟩⟩, hh.2⟩
                  · obtain rfl := List.mem_singleton.1 he
                    exact ⟨⟨⟨HRC.out, hp, hn⟩, haw⟩, HRM.out⟩
                obtain ⟨v6, w6, hr6, ho6, hb6, hk6, hv6, hsz6⟩ := append_op ((w2'.alloc (.cells #[.int .i64 (ro.kind : Int), .int .u32 (ro.fr : Int), .int .u32 (ro.too : Int), .string ⟨ro.name.toArray⟩, .slice q1 m1 y1, .slice q2 m2 y2, .int .i32 ro.fin, .int .i64 (r : Int)] 53)).alloc (.cells #[.int .i64 (ro.kind : Int), .int .u32 (ro.fr : Int), .int .u32 (ro.too : Int), .string ⟨ro.name.toArray⟩, .slice q1 m1 y1, .slice q2 m2 y2, .int .i32 ro.fin, .int .i64 (r : Int)] 53)) w2.heap.size 41 sv k vals2 (own_alloc (ownW_below (ownW_below HOW2.out B2) B3) _) (w2'.heap.size + 1) ra q1 q2 m1 m2 y1 y2 (by rw [show (opc ra (.slice q1 m1 y1) (.slice q2 m2 y2)).toArray = #[.int .i64 (ro.kind : Int), .int .u32 (ro.fr : Int), .int .u32 (ro.too : Int), .string ⟨ro.name.toArray⟩, .slice q1 m1 y1, .slice q2 m2 y2, .int .i32 ro.fin, .int .i64 (r : Int)] from hCA.symm]; exact Row.new' _ _ _ hS3.symm) (by omega) BYW.size
                have hs2 := BAy.size
                have hgl : w2'.heap.size < (w2'.alloc (.cells #[.int .i64 (ro.kind : Int), .int .u32 (ro.fr : Int), .int .u32 (ro.too : Int), .string ⟨ro.name.toArray⟩, .slice q1 m1 y1, .slice q2 m2 y2, .int .i32 ro.fin, .int .i64 (r : Int)] 53)).heap.size := R3.lt
                have RO6 : Row w6 w2'.heap.size #[.int .i64 (ra.kind : Int), .int .u32 (ra.fr : Int), .int .u32 (ra.too : Int), .string ⟨ra.name.toArray⟩, .slice q1 m1 y1, .slice q2 m2 y2, .int .i32 ra.fin, .int .i64 (ra.pos : Int)] 53 := by rw [← hCA]; exact (hk6 w2'.heap.size (R3.alloc _).lt (fun e => by have := (ownW_lt HOW2.out e).2; omega)).trans (R3.alloc _)
                have hall6 : ∀ e ∈ vals2 ++ [(ra, Value.slice q1 m1 y1, Value.slice q2 m2 y2)], (okE w6 e ∧ away w6 e v6.ownBlock) ∧ e.1.ok Dy.inY ∧ e.1.may := fun e he => by
                  have key := hall2 e he
                  refine ⟨⟨okE_kept (okE_below key.1.1 BAy) (o := sv.ownBlock) (fun g hg => by have := key.1.2 g hg; exact ⟨by omega, this.2⟩) hk6, fun g hg => ?_⟩, key.2⟩
                  have hgg := key.1.2 g hg
                  refine ⟨by omega, ?_⟩
                  rcases hv6 with e | e
                  · rw [e]; exact hgg.2
                  · rw [e]; intro e2; injection e2 with e2; omega
                have B6 := BYW.trans hb6
                have hl6 := hall6 (ra, .slice q1 m1 y1, .slice q2 m2 y2) (by simp)
                have HP6 := Lib.hid hl6.1.1
                have HALL6 := Lib.hid hall6
                have HOW6 := Lib.hid ho6
                have HB6 := Lib.hid B6
                have HR6 := Lib.hid hr6
                have HCA := Lib.hid hCA
                clear hCA hra hr0 hr6 ho6 hb6 hk6 hv6 hsz6 hall6 BAy BYW hs2 hall2 haw hro hsz2 hsz3 hp hn hf1 hf2 hb2 B2 B3 BA hqa c0 c1 c2 c3 c4 c5 c6 h30 hk B6 hl6 hgl R3 hS3
                unfold opc
                go_wp2_with (first
                  | (at_builtin; refine ev_run rfl (run_app_op _ _ _ _ rfl rfl rfl HR6.out) ?_)
                  | (refine ev_load (N := 69) rfl rfl 53 (Operand.tmp 17) rfl w2'.heap.size rfl RO6 _ Tryz.underlying53 rfl (by kernel_rfl) ?_))
                refine (ltext_any ra (.slice q1 m1 y1) (.slice q2 m2 y2) HRC.out w6 HP6.out.2.1 HP6.out.2.2 (HM.out.below (Below.trans HBT.out (below_base HB6.out HBT.out.size)))).mono ?_
                rintro _ w8 ⟨rfl, hb8⟩
                have HALL8 : Hid (∀ e ∈ vals2 ++ [(ra, Value.slice q1 m1 y1, Value.slice q2 m2 y2)], (okE w8 e ∧ away w8 e v6.ownBlock) ∧ e.1.ok Dy.inY ∧ e.1.may) := Lib.hid fun e he => by
                  have hh := HALL6.out e he
                  exact ⟨⟨okE_below hh.1.1 hb8, fun g hg => ⟨Nat.lt_of_lt_of_le (hh.1.2 g hg).1 hb8.size, (hh.1.2 g hg).2⟩⟩, hh.2⟩
                have HOW8 := Lib.hid (ownW_below HOW6.out hb8)
                have HB8 := Lib.hid (below_then HB6.out hb8)
                have hx := otext_len ra HRC.out
                have htl := HTL.out
                have h30 := H30.out
                have hx2 : tx.length + (Sc.text Dy.text ra).length ≤ 9223372036854775807 := by have := HLT.out; omega
                clear RO6 hb8 hx htl h30
                go_wp2_with fail
                refine ⟨⟨k + 1, _, vals2 ++ [(ra, .slice q1 m1 y1, .slice q2 m2 y2)], by have := HLT.out; omega, by simp, rfl, ?_, HOW8.out, HALL8.out, HB8.out⟩, by have := HLT.out; simp [intOf]; omega⟩
                rw [List.map_append, List.flatMap_append, ← HTX2.out]
                refine congrArg Value.string ?_
                apply ByteArray.ext
                simp
              · have i1 : ¬ (k : Int) < (l1.length : Int) := by omega
                obtain rfl : k = l1.length := by omega
                clear hlt hk
                have how1 := ownW_below HOW1.out HB2.out
                obtain ⟨hlA, pA, cA, rfl, hEA⟩ := els_ownG opE 8 opE0 (fun _ => rfl) (by omega) how1
                obtain ⟨hlB, pB, cB, rfl, hEB⟩ := els_ownG opE 8 opE0 (fun _ => rfl) (by omega) HOW2.out
                have h30 := H30.out
                have hal1 : ∀ e ∈ vals1, okE wr e := fun e he => okE_below (HAL1.out e he).1.1 HB2.out
                have hal2 : ∀ e ∈ vals2, okE wr e := fun e he => (HAL2.out e he).1.1
                have hS := sameO_any pA pB cA cB vals1 vals2 wr hEA hEB hal1 hal2 (by omega)
                have hq := same_str vals1 vals2 (fun e he => (HAL1.out e he).2) (fun e he => (HAL2.out e he).2) (by omega) (by omega)
                rw [← HTX1.out, ← HTX2.out] at hq
                have HS := Lib.hid hS
                have HQQ := Lib.hid hq
                clear how1 hlA hlB hEA hEB h30 hal1 hal2 hS hq
                go_wp2_with fail
                refine HS.out.mono ?_
                rintro _ w3 ⟨rfl, hb3⟩
                have HB3 := Lib.hid hb3
                clear hb3
                go_wp2_with fail
                go_ret
                exact ⟨congrArg (fun b => Ending.returned (Value.bool b)) (by rw [HQQ.out]; exact beq_iff_eq.2 (by rw [Bool.eq_iff_iff]; simp)), below_then HBZ.out HB3.out⟩
theorem scriptSames_int (a1 : Option Addr) (len1 cap1 : Nat) (l1 : List (Sc.O × Value × Value)) (a2 : Option Addr) (len2 cap2 : Nat) (l2 : List (Sc.O × Value × Value)) (at0 : Int) (same : Bool) (w : World) (hM : Glb13 w) (hl1 : l1.length = len1) (hl2 : l2.length = len2)
    (hok1 : ∀ x ∈ l1, okO w x) (hok2 : ∀ x ∈ l2, okO w x) (hE1 : ElsAt ovE 7 o0 w a1 l1) (hE2 : ElsAt ovE 7 o0 w a2 l2) (hlm1 : len1 ≤ 9223372036854775807) (hlm2 : len2 ≤ 9223372036854775807) (hat : 0 ≤ at0 ∧ at0 ≤ 255) :
    Calls Tryz.prog 9 #[.slice a1 len1 cap1, .slice a2 len2 cap2, .int .u8 at0, .bool same] w fun e w' => e = .returned (.bool true) ∧ Below w.heap.size w w' := by
  obtain ⟨n, rfl⟩ := Int.eq_ofNat_of_zero_le hat.1
  exact scriptSames_law a1 len1 cap1 l1 a2 len2 cap2 l2 n same w hM hl1 hl2 hok1 hok2 hE1 hE2 hlm1 hlm2 (by omega)
end Go.Proofs.YtbnhodpbamijkaaGreatDoor
