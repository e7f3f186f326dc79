/-
  Own texts, several in one (Q7, ParB, JoinF).
-/
import Derived.Test.YtbhjkddjgikaiaaGreatDoorMrg39
import Derived.Test.YtbhjkddjgikaiaaGreatDoorMrg37
import Derived.Test.YtbhjkddjgikaiaaGreatDoorMrg24
import Derived.Deep.QuietTactic
import Derived.BigQuiet
import Derived.Test.YtbhjkddjgikaiaaGreatDoorMrg31
import Derived.JoinedOf
import Derived.KernelRfl
import GoSem.ClaimSevenParts
import GoSem.ClaimGoes
import Derived.Test.YtbhjkddjgikaiaaGreatDoorProg
namespace Go.Proofs.YtbhjkddjgikaiaaGreatDoor
open Go.RowKit
set_option linter.unusedVariables false
set_option linter.unusedSimpArgs false
theorem op_any (k : Nat) (hk : k < 8) (g b ho pos : Nat) (l : List Lx.Tk) (w : World) (h : QsAt w g b l none) (hE : Sc.Ended l) (hlen : l.length ≤ 70000) (R : Row w ho (opc (opK k pos) (.slice none 0 0) (.slice none 0 0)).toArray 48) (hgo : g ≠ ho) (hbo : b ≠ ho) :
    Calls Tryz.prog 57 #[.pointer (some ⟨g, 0, none⟩), .pointer (some ⟨ho, 0, none⟩)] w fun e w' => e = .returned (.tuple #[]) ∧ opR w.heap.size g b ho pos l.length (Sc.restOf k l) w' ∧ Only (two g ho) w w' := by
  rcases (show k = 0 ∨ k = 1 ∨ k = 2 ∨ k = 3 ∨ k = 4 ∨ k = 5 ∨ k = 6 ∨ k = 7 by omega) with rfl | rfl | rfl | rfl | rfl | rfl | rfl | rfl
  · exact op_0 g b ho pos l w h hE R hgo hbo
  · exact op_1 g b ho pos l w h hE R hgo hbo
  · exact op_2 g b ho pos l w h hE R hgo hbo
  · exact op_3 g b ho pos l w h hE R hgo hbo
  · exact op_4 g b ho pos l w h hE R hgo hbo
  · exact op_5 g b ho pos l w h hE R hgo hbo
  · exact op_6 g b ho pos l w h hE R hgo hbo
  · exact op_7 g b ho pos l w h hE hlen R hgo hbo
def words8 : Array Value := #[.string ⟨#[114, 101, 110, 117, 109, 98, 101, 114]⟩, .string ⟨#[114, 101, 110, 97, 109, 101]⟩, .string ⟨#[114, 101, 112, 97, 114, 101, 110, 116]⟩, .string ⟨#[109, 101, 114, 103, 101]⟩, .string ⟨#[115, 112, 108, 105, 116]⟩, .string ⟨#[114, 101, 99, 111, 100, 101]⟩, .string ⟨#[106, 111, 105, 110]⟩, .string ⟨#[99, 97, 108, 101, 110, 100, 97, 114]⟩]
theorem words_get (k : Nat) (hk : k < 8) : words8[k]? = some (.string ⟨(Sc.word k).toArray⟩) := by
  rcases (show k = 0 ∨ k = 1 ∨ k = 2 ∨ k = 3 ∨ k = 4 ∨ k = 5 ∨ k = 6 ∨ k = 7 by omega) with rfl | rfl | rfl | rfl | rfl | rfl | rfl | rfl <;> rfl
set_option maxHeartbeats 16000000 in
set_option maxRecDepth 100000 in
theorem lparse_any (s : ByteArray) (l : List UInt8) (hl : l = s.data.toList) (hs : l.length ≤ 65536) (w : World) (hM : Glb13 w) :
    Calls Tryz.prog 18 #[.string s] w fun e w' => parseR w.heap.size (Sc.parse Dy.parse l) e w' ∧ Below w.heap.size w w' := by
  have hsz : s.size = l.length := by rw [hl]; exact size_data s
  have i0 : ¬ (65536 : Int) < (s.size : Int) := by omega
  have HSP := Lib.hid (lsplit_any s l hl hs w hM.g5)
  have hpo : Sc.parse Dy.parse l = match Lx.split Dy.parse l 0 with
      | .error e => .error e
      | .ok ts => Sc.parseOf 101 0 ts := by
    unfold Sc.parse
    rw [if_neg (by omega)]
    rcases Lx.split Dy.parse l 0 with e | ts <;> rfl
  have HPO := Lib.hid hpo
  have HLS := Lib.hid hs
  clear hpo hsz hl hs
  go_enter Tryz.func18, Tryz.ntmps18
  go_wp2_with fail
  refine HSP.out.mono ?_
  rintro _ w1 ⟨⟨r, rfl, hr⟩, hb1⟩
  have HB1 := Lib.hid hb1
  clear hb1 HSP
  rcases hsp : Lx.split Dy.parse l 0 with ⟨p, c⟩ | ts
  · rw [hsp] at hr
    obtain rfl : r = .tuple #[.slice none 0 0, .int .i64 (p : Int), .int .i64 (c : Int)] := hr
    have hc : ¬ (c : Int) = 0 := by have := split_err_ne Dy.parse _ l 0 (Nat.le_refl _) p c hsp; omega
    have HS := Lib.hid hsp
    clear hsp
    go_wp2_with fail
    exact bodyPost_ret (v := .tuple #[.slice none 0 0, .int .i64 (p : Int), .int .i64 (c : Int)]) (by simp [results, Tryz.results18, go_sem]) rfl ⟨by rw [HPO.out, HS.out]; rfl, HB1.out⟩
  · rw [hsp] at hr
    obtain ⟨v, rfl, how⟩ : ∃ v, r = .tuple #[v, .int .i64 0, .int .i64 0] ∧ w1.ownsRow w.heap.size 113 5 v ts.length (tks ts) := hr
    have hEn := Sc.split_ended Dy.parse _ l 0 (Nat.le_refl _) ts hsp
    obtain ⟨b, cap, rfl, hTk, hc1, hc2, hbb⟩ := tks_own how hEn.1.ne
    have hlt : ts.length ≤ 65537 := by have := HLS.out; omega
    obtain ⟨res, hres⟩ : ∃ r, r = Sc.parseOf 101 0 ts := ⟨_, rfl⟩
    have HPP := Lib.hid (show Sc.parse Dy.parse l = res by rw [HPO.out, hsp]; exact hres.symm)
    have hbl : b < w1.heap.size := block_lt_of_cell (hTk.hd hEn.1.ne).1
    have OA : Only (fun _ => False) w1 (w1.alloc (.cells #[.slice (some ⟨b, 0, none⟩) ts.length cap, .int .i64 0, .int .i64 0] 121)) := (Only.refl _ w1).alloc _
    have hq0 : QsAt (w1.alloc (.cells #[.slice (some ⟨b, 0, none⟩) ts.length cap, .int .i64 0, .int .i64 0] 121)) w1.heap.size b ts none := ⟨0, cap, Row.new w1 _ _, hTk.only OA (fun h => h), hc1, hc2, by omega, fun e he => by cases he⟩
    have hBS := below_alloc HB1.out (.cells #[.slice (some ⟨b, 0, none⟩) ts.length cap, .int .i64 0, .int .i64 0] 121)
    have hszS : (w1.alloc (.cells #[.slice (some ⟨b, 0, none⟩) ts.length cap, .int .i64 0, .int .i64 0] 121)).heap.size = w1.heap.size + 1 := Array.size_push _
    have hww := HB1.out.size
    clear how hTk hc1 hc2 OA hsp
    go_wp2_with fail
    generalize w1.alloc (.cells #[.slice (some ⟨b, 0, none⟩) ts.length cap, .int .i64 0, .int .i64 0] 121) = wS at *
    obtain ⟨g, hg⟩ : ∃ x, x = w1.heap.size := ⟨_, rfl⟩
    rw [← hg] at hq0 hszS hbl ⊢
    have HN := Lib.hid (show w.heap.size ≤ b ∧ b < g ∧ w.heap.size ≤ g ∧ g < wS.heap.size by omega)
    have H0 := Lib.hid (And.intro hq0 (And.intro hEn.1 (And.intro hlt (And.intro hres hBS))))
    clear hq0 hEn hlt hres hBS hszS hww hbl hbb hg HPO HB1 HLS
    go_loopw [9] (fun ov wr => ∃ (v : Value) (vals : List (Sc.Op × Value × Value)) (lr : List Lx.Tk) (er : Option (Nat × Nat)), v = ov ∧ wr.ownsRow wS.heap.size 48 8 v vals.length (vals.flatMap opE) ∧ QsAt wr g b lr er ∧ (Sc.Ended lr ∧ lr.length ≤ 65537) ∧ vals.length ≤ 100 ∧ ((er = none → res = Sc.preO (vals.map (·.1)) (Sc.parseOf (101 - vals.length) vals.length lr) ∧ ∀ x ∈ vals, okP wr x ∧ ∀ q, (x.2.1.ownBlock = some q ∨ x.2.2.ownBlock = some q) → wS.heap.size ≤ q ∧ q < wr.heap.size ∧ v.ownBlock ≠ some q) ∧ ∀ e, er = some e → res = .error e) ∧ wS.heap.size ≤ wr.heap.size ∧ Below w.heap.size w wr) (fun ov _ => 101 - lenOf ov)
    case atStart =>
      have h := H0.out
      exact ⟨_, [], ts, none, rfl, ⟨rfl, .inl ⟨rfl, rfl⟩⟩, h.1, ⟨h.2.1, h.2.2.1⟩, by simp, ⟨fun _ => ⟨by rw [h.2.2.2.1]; exact (Sc.preO_nil _).symm, fun x hx => by cases hx⟩, fun e he => by cases he⟩, Nat.le_refl _, h.2.2.2.2⟩
    case round =>
      clear H0
      obtain ⟨v, vals, lr, er, rfl, how, hq, hE, hle, hrel, hsz, hbw⟩ := hrel
      obtain ⟨po, co, rfl⟩ := own_slc how
      have HH := Lib.hid (And.intro how (And.intro hq (And.intro hE (And.intro hle (And.intro hrel (And.intro hsz hbw))))))
      obtain ⟨off, c, RG, hTk, hc1, hc2, hne, her⟩ := hq
      have cg0 : wr.cell? ⟨g, 0, none⟩ = some (.slice (some ⟨b, off, none⟩) lr.length c) := RG.cell 0
      have hl := hE.1.ne
      have i1 : (0 : Int) < (lr.length : Int) := by omega
      obtain ⟨k0, _, _, _, k4⟩ := hTk.hd hl
      rcases er with _ | ⟨p, ec⟩
      · have cg2 : wr.cell? ⟨g, 2, none⟩ = some (.int .i64 0) := RG.cell 2
        have HR1 := Lib.hid (hrel.1 rfl)
        clear how hE hrel hsz hbw RG hTk hc1 hc2 hne her hl
        by_cases hk : (Sc.hd lr).kind = 0
        · have k00 : wr.cell? ⟨b, off, none⟩ = some (.int .i64 0) := by rw [k0, hk]; rfl
          have HK := Lib.hid hk
          clear k0 hk hle
          go_wp2_with fail
          have hh := HH.out
          obtain ⟨f, hf⟩ : ∃ f, 101 - vals.length = f + 1 := ⟨100 - vals.length, by have := hh.2.2.2.1; omega⟩
          have h1 := HR1.out
          refine bodyPost_ret (v := .tuple #[.slice po vals.length co, .int .i64 0, .int .i64 0]) (by simp [results, Tryz.results18, go_sem]) rfl ⟨?_, hh.2.2.2.2.2.2⟩
          rw [HPP.out, h1.1, hf, Sc.parseOf_end HK.out]
          exact ⟨_, vals, rfl, own_base hh.1 (by have := HN.out; omega), by simp, fun x hx => (h1.2 x hx).1⟩
        · have j0 : ¬ ((Sc.hd lr).kind : Int) = 0 := by omega
          have HK := Lib.hid hk
          clear hk
          by_cases hn : vals.length = 100
          · have i8 : (vals.length : Int) = 100 := by omega
            go_wp2_with fail
            refine (wrong_any 2 (by omega) g b lr none wr HH.out.2.1 HH.out.2.2.1.1).mono ?_
            rintro _ w2 ⟨rfl, hq2, O2⟩
            have HN8 := Lib.hid hn
            obtain ⟨off2, c2, RG2, _⟩ := hq2
            have d1 : w2.cell? ⟨g, 1, none⟩ = some (.int .i64 ((Sc.hd lr).pos : Int)) := RG2.cell 1
            have d2 : w2.cell? ⟨g, 2, none⟩ = some (.int .i64 2) := RG2.cell 2
            clear RG2 hn i8 cg0 cg2 k0 k4
            go_wp2_with fail
            go_quiet (fail)
            go_wp2_with fail
            exact bodyPost_ret (v := .tuple #[.slice none 0 0, .int .i64 ((Sc.hd lr).pos : Int), .int .i64 2]) (by simp [results, Tryz.results18, go_sem]) rfl ⟨by
              obtain ⟨f, hf⟩ : ∃ f, 101 - vals.length = f + 1 := ⟨100 - vals.length, by have := HN8.out; omega⟩
              rw [HPP.out, HR1.out.1, hf, HN8.out, Sc.parseOf_full HK.out]
              rfl, below_dN (HH.out.2.2.2.2.2.2.trans (O2.below HH.out.2.2.2.2.2.2.size (fun k hk e => by have : k = g := e; have := HN.out; omega))) nq⟩
          · have i8 : ¬ (vals.length : Int) = 100 := by omega
            have HN8 := Lib.hid hn
            obtain ⟨pos, hpos⟩ : ∃ x, x = (Sc.hd lr).pos := ⟨_, rfl⟩
            rw [← hpos] at k4
            have HPOS := Lib.hid hpos
            clear hn hpos
            go_wp2_with fail
            have RO := (Row.new wr #[.int .i64 (-1), .int .u32 0, .int .u32 0, .string ⟨#[]⟩, .slice none 0 0, .slice none 0 0, .int .i32 0, .int .i64 (pos : Int)] 48).alloc (.cells words8 9)
            have hs1 : (wr.alloc (.cells #[.int .i64 (-1), .int .u32 0, .int .u32 0, .string ⟨#[]⟩, .slice none 0 0, .slice none 0 0, .int .i32 0, .int .i64 (pos : Int)] 48)).heap.size = wr.heap.size + 1 := Array.size_push _
            have RW : Row ((wr.alloc (.cells #[.int .i64 (-1), .int .u32 0, .int .u32 0, .string ⟨#[]⟩, .slice none 0 0, .slice none 0 0, .int .i32 0, .int .i64 (pos : Int)] 48)).alloc (.cells words8 9)) (wr.heap.size + 1) words8 9 := Row.new' _ _ _ hs1.symm
            have OW : Only (fun _ => False) wr ((wr.alloc (.cells #[.int .i64 (-1), .int .u32 0, .int .u32 0, .string ⟨#[]⟩, .slice none 0 0, .slice none 0 0, .int .i32 0, .int .i64 (pos : Int)] 48)).alloc (.cells words8 9)) := ((Only.refl _ wr).alloc _).alloc _
            have hh := HH.out
            have hq1 := hh.2.1.only OW (fun h => h) (fun h => h)
            unfold words8 at RO RW OW hq1
            generalize (wr.alloc (.cells #[.int .i64 (-1), .int .u32 0, .int .u32 0, .string ⟨#[]⟩, .slice none 0 0, .slice none 0 0, .int .i32 0, .int .i64 (pos : Int)] 48)).alloc (.cells #[.string ⟨#[114, 101, 110, 117, 109, 98, 101, 114]⟩, .string ⟨#[114, 101, 110, 97, 109, 101]⟩, .string ⟨#[114, 101, 112, 97, 114, 101, 110, 116]⟩, .string ⟨#[109, 101, 114, 103, 101]⟩, .string ⟨#[115, 112, 108, 105, 116]⟩, .string ⟨#[114, 101, 99, 111, 100, 101]⟩, .string ⟨#[106, 111, 105, 110]⟩, .string ⟨#[99, 97, 108, 101, 110, 100, 97, 114]⟩] 9) = wW at *
            have RW : Row wW (wr.heap.size + 1) words8 9 := RW
            obtain ⟨gw, hgw⟩ : ∃ x, x = wr.heap.size + 1 := ⟨_, rfl⟩
            rw [← hgw] at RW ⊢
            obtain ⟨ho, hho⟩ : ∃ x, x = wr.heap.size := ⟨_, rfl⟩
            rw [← hho] at RO ⊢
            have HNE := Lib.hid (show ¬ ho = g ∧ ¬ b = ho ∧ ¬ g = ho ∧ w.heap.size ≤ ho ∧ wS.heap.size ≤ ho ∧ gw ≠ ho ∧ gw ≠ g ∧ wr.heap.size ≤ ho ∧ b ≠ gw by have := HN.out; have := hh.2.2.2.2.2.1; omega)
            have HW := Lib.hid (And.intro RO (And.intro RW (And.intro hq1 OW)))
            clear RO RW hq1 OW hh hs1 hgw hho cg0 cg2 k0 k4 j0 i8 hle
            obtain ⟨wo, hwo⟩ : ∃ x, x = wr := ⟨_, rfl⟩
            subst hwo
            go_loopw [59] (fun iv wr => ∃ k : Nat, k ≤ 8 ∧ iv = .int .i64 (k : Int) ∧ Row wr gw words8 9 ∧ Only (two g ho) wW wr ∧ (((∀ j, j < k → Sc.isN 1 (Sc.word j) lr = false) ∧ Row wr ho #[.int .i64 (-1), .int .u32 0, .int .u32 0, .string ⟨#[]⟩, .slice none 0 0, .slice none 0 0, .int .i32 0, .int .i64 (pos : Int)] 48 ∧ QsAt wr g b lr none) ∨ (∃ j0, Sc.kindOf lr = some j0 ∧ Row wr ho (opc (opK j0 pos) (.slice none 0 0) (.slice none 0 0)).toArray 48 ∧ QsAt wr g b lr.tail none))) (fun iv _ => 8 - (intOf iv).toNat)
            case atStart =>
              have h := HW.out
              exact ⟨0, by omega, rfl, h.2.1, Only.refl _ _, .inl ⟨fun j hj => by omega, h.1, h.2.2.1⟩⟩
            case round =>
              obtain ⟨k, hk8, rfl, RW, OI, hst⟩ := hrel
              have HI := Lib.hid (And.intro RW (And.intro OI hst))
              have HK8 := Lib.hid hk8
              clear OI hk8
              by_cases hlt : k < 8
              · have i1 : (k : Int) < 8 := by omega
                have i2 : (0 : Int) ≤ (k : Int) := by omega
                have e9 : IntKind.i64.wrap ((k : Int) + 1) = (k : Int) + 1 := by rw [IntKind.wrap_i64]; omega
                have cw : wr.cell? ⟨gw, k, none⟩ = some (.string ⟨(Sc.word k).toArray⟩) := (RW.cell k).trans (words_get k hlt)
                have HLT := Lib.hid hlt
                clear RW hlt
                rcases hst with ⟨hno, RO, hq⟩ | ⟨j0, hj0, RO, hq⟩
                · have c0 : wr.cell? ⟨ho, 0, none⟩ = some (.int .i64 (-1)) := RO.cell 0
                  have z0 := RO.frozen 0
                  have HNO := Lib.hid (And.intro hno (And.intro RO hq))
                  clear hno RO hq
                  go_wp2_with fail
                  have his := is_any 1 (Sc.word k) g b lr none wr HNO.out.2.2 HH.out.2.2.1.1
                  cases hN : Sc.isN 1 (Sc.word k) lr
                  · have e1 : isQ 1 (Sc.word k) lr none = false := by unfold isQ; rw [hN]; rfl
                    rw [e1] at his
                    have HNN := Lib.hid hN
                    clear hN e1
                    refine his.mono ?_
                    rintro _ wr ⟨rfl, rfl⟩
                    clear his
                    go_wp2_with fail
                    refine ⟨⟨k + 1, HLT.out, by simp, HI.out.1, HI.out.2.1, .inl ⟨fun j hj => ?_, HNO.out.2.1, HNO.out.2.2⟩⟩, by have := HLT.out; simp [intOf]; omega⟩
                    by_cases hjk : j < k
                    · exact HNO.out.1 j hjk
                    · obtain rfl : j = k := by omega
                      exact HNN.out
                  · have e1 : isQ 1 (Sc.word k) lr none = true := by unfold isQ; rw [hN]; rfl
                    rw [e1] at his
                    have hn := need_any 1 (Sc.word k) (by omega) g b lr none (wr.setCell ⟨ho, 0, none⟩ (.int .i64 (k : Int))) (HNO.out.2.2.only (set_only wr ho 0 (.int .i64 (k : Int))) HNE.out.2.2.1 HNE.out.2.1) HH.out.2.2.1.1
                    have hqn : qneed 1 (Sc.word k) (lr, none) = (Sc.hd lr, (lr.tail, none)) := by unfold qneed; rw [if_pos e1]
                    obtain ⟨t, ht⟩ : ∃ t, t = Sc.hd lr := ⟨_, rfl⟩
                    rw [hqn, ← ht] at hn
                    clear ht
                    have HND := Lib.hid hn
                    have HNN := Lib.hid hN
                    clear hN e1 hn hqn
                    refine his.mono ?_
                    rintro _ wr ⟨rfl, rfl⟩
                    clear his
                    go_wp2_with fail
                    refine HND.out.mono ?_
                    rintro _ w2 ⟨rfl, hp2, O2⟩
                    have RB : Row (wr.setCell ⟨ho, 0, none⟩ (.int .i64 (k : Int))) ho (opc (opK k pos) (.slice none 0 0) (.slice none 0 0)).toArray 48 := HNO.out.2.1.set 0 _
                    have RB2 := O2.row RB HNE.out.1
                    have SH := set_only wr ho 0 (.int .i64 (k : Int))
                    have RW2 := O2.row (SH.row HI.out.1 HNE.out.2.2.2.2.2.1) HNE.out.2.2.2.2.2.2.1
                    have OO := (HI.out.2.1.trans (SH.mono (S' := two g ho) fun k e => .inr e)).trans (O2.mono (S' := two g ho) fun k e => .inl e)
                    have H2 := Lib.hid (And.intro hp2 (And.intro RB2 (And.intro RW2 OO)))
                    clear hp2 RB RB2 SH RW2 OO O2
                    unfold tk
                    go_wp2_with fail
                    exact ⟨⟨k + 1, HLT.out, by simp, H2.out.2.2.1, H2.out.2.2.2, .inr ⟨k, Sc.kindOf_some HLT.out HNO.out.1 HNN.out, H2.out.2.1, H2.out.1⟩⟩, by have := HLT.out; simp [intOf]; omega⟩
                · have c0 : wr.cell? ⟨ho, 0, none⟩ = some (.int .i64 (j0 : Int)) := RO.cell 0
                  have jn : ¬ (j0 : Int) < 0 := by omega
                  have HNO := Lib.hid (And.intro hj0 (And.intro RO hq))
                  clear hj0 RO hq
                  go_wp2_with fail
                  exact ⟨⟨k + 1, HLT.out, by simp, HI.out.1, HI.out.2.1, .inr ⟨j0, HNO.out⟩⟩, by have := HLT.out; simp [intOf]; omega⟩
              · have i1 : ¬ (k : Int) < 8 := by omega
                obtain rfl : k = 8 := by have := HK8.out; omega
                clear hlt RW
                obtain ⟨f, hf⟩ : ∃ f, 101 - vals.length = f + 1 := ⟨100 - vals.length, by have := HH.out.2.2.2.1; omega⟩
                have HF := Lib.hid hf
                have hnn := HNE.out
                have hN := HN.out
                have OWr : Only (fun q => q = g) wo wr := (HW.out.2.2.2.mono (S' := (· = g)) fun k h => h.elim).trans_new HI.out.2.1 (fun i hi e => by
                  rcases e with e | e
                  · exact e
                  · omega)
                have hBW : Below w.heap.size w wr := HH.out.2.2.2.2.2.2.trans (OWr.below HH.out.2.2.2.2.2.2.size (fun k hk e => by have : k = g := e; omega))
                have HO := Lib.hid (And.intro OWr hBW)
                clear OWr hBW hnn hN hf
                rcases hst with ⟨hno, RO, hq⟩ | ⟨j0, hj0, RO, hq⟩
                · have c0 : wr.cell? ⟨ho, 0, none⟩ = some (.int .i64 (-1)) := RO.cell 0
                  have HNO := Lib.hid (And.intro hno hq)
                  clear hno RO hq
                  go_wp2_with fail
                  refine (wrong_any 17 (by omega) g b lr none wr HNO.out.2 HH.out.2.2.1.1).mono ?_
                  rintro _ w2 ⟨rfl, hq2, O2⟩
                  obtain ⟨off2, c2, RG2, _⟩ := hq2
                  have d1 : w2.cell? ⟨g, 1, none⟩ = some (.int .i64 ((Sc.hd lr).pos : Int)) := RG2.cell 1
                  have d2 : w2.cell? ⟨g, 2, none⟩ = some (.int .i64 17) := RG2.cell 2
                  have HO2 := Lib.hid O2
                  clear RG2 O2 c0
                  go_wp2_with fail
                  go_quiet (fail)
                  go_wp2_with fail
                  exact bodyPost_ret (v := .tuple #[.slice none 0 0, .int .i64 ((Sc.hd lr).pos : Int), .int .i64 17]) (by simp [results, Tryz.results18, go_sem]) rfl ⟨by
                    rw [HPP.out, HR1.out.1, HF.out, Sc.parseOf_word HK.out HN8.out (Sc.kindOf_none HNO.out.1)]
                    rfl, below_dN (HO.out.2.trans (HO2.out.below HO.out.2.size (fun k hk e => by have : k = g := e; have := HN.out; omega))) nq⟩
                · have c0 : wr.cell? ⟨ho, 0, none⟩ = some (.int .i64 (j0 : Int)) := RO.cell 0
                  have jn : ¬ (j0 : Int) < 0 := by omega
                  have hki := Sc.kindOf_is hj0
                  have hEt := HH.out.2.2.1.1.tail (show (Sc.hd lr).kind ≠ 0 from HK.out)
                  have HKJ := Lib.hid (And.intro hj0 hki)
                  have HOP := Lib.hid (op_any j0 hki.1 g b ho pos lr.tail wr hq hEt (by rw [List.length_tail]; have := HH.out.2.2.1.2; omega) RO HNE.out.2.2.1 HNE.out.2.1)
                  clear hj0 hki RO hq hEt
                  go_wp2_with fail
                  refine HOP.out.mono ?_
                  rintro _ w3 ⟨rfl, ⟨l', er', oo, v1, v2, q3, hE3, R3, ⟨⟨a1, n1, d1, rfl⟩, ⟨a2, n2, d2, rfl⟩, hfr⟩, hres3⟩, O3⟩
                  have H3 := Lib.hid (And.intro R3 (And.intro hfr (And.intro hres3 (And.intro O3 (And.intro q3 hE3)))))
                  clear HOP R3 hfr hres3 O3 q3 hE3 c0
                  go_wp2_with fail
                  refine (need_any 5 [59] (by omega) g b l' er' w3 H3.out.2.2.2.2.1 H3.out.2.2.2.2.2.1).mono ?_
                  have hE4 := qneed_ended (k := 5) (x := [59]) (q := (l', er')) (by omega) H3.out.2.2.2.2.2.1
                  obtain ⟨r4, hr4⟩ : ∃ r, r = qneed 5 [59] (l', er') := ⟨_, rfl⟩
                  rw [← hr4] at hE4 ⊢
                  obtain ⟨t4, l4, er4⟩ := r4
                  rintro _ w4 ⟨rfl, hp4, O4⟩
                  have h3 := H3.out
                  have hnn := HNE.out
                  have hN := HN.out
                  have hhs := HH.out.2.2.2.2.2
                  have R4 : Row w4 ho #[.int .i64 (oo.kind : Int), .int .u32 (oo.fr : Int), .int .u32 (oo.too : Int), .string ⟨oo.name.toArray⟩, .slice a1 n1 d1, .slice a2 n2 d2, .int .i32 oo.fin, .int .i64 (oo.pos : Int)] 48 := O4.row h3.1 hnn.1
                  have OX : Only (two g ho) wr w4 := h3.2.2.2.1.trans (O4.mono (S' := two g ho) fun k e => .inl e)
                  have hsz4 := OX.size
                  have hszr := HO.out.1.size
                  have OY : Only (fun q => q = g) wo w4 := HO.out.1.trans_new OX (fun i hi e => by
                    rcases e with e | e
                    · exact e
                    · omega)
                  have how4 : w4.ownsRow wS.heap.size 48 8 (.slice po vals.length co) vals.length (vals.flatMap opE) := own_only HH.out.1 OY (fun k e => by have : k = g := e; omega)
                  have hB4 : Below w.heap.size w w4 := hhs.2.trans (OY.below hhs.2.size (fun k hk e => by have : k = g := e; omega))
                  obtain ⟨v6, w6, hr6, ho6, hb6, hk6, hv6, hsz6⟩ := append_op (w4.alloc (.cells #[.int .i64 (oo.kind : Int), .int .u32 (oo.fr : Int), .int .u32 (oo.too : Int), .string ⟨oo.name.toArray⟩, .slice a1 n1 d1, .slice a2 n2 d2, .int .i32 oo.fin, .int .i64 (oo.pos : Int)] 48)) wS.heap.size 26 _ vals.length vals (own_alloc how4 _) w4.heap.size oo a1 a2 n1 n2 d1 d2 (Row.new w4 _ _) (by have := HH.out.2.2.2.1; omega) (by have := (Only.alloc (Only.refl (fun _ => False) w4) (.cells #[.int .i64 (oo.kind : Int), .int .u32 (oo.fr : Int), .int .u32 (oo.too : Int), .string ⟨oo.name.toArray⟩, .slice a1 n1 d1, .slice a2 n2 d2, .int .i32 oo.fin, .int .i64 (oo.pos : Int)] 48)).size; omega)
                  have OB : Only (fun _ => False) w4 (w4.alloc (.cells #[.int .i64 (oo.kind : Int), .int .u32 (oo.fr : Int), .int .u32 (oo.too : Int), .string ⟨oo.name.toArray⟩, .slice a1 n1 d1, .slice a2 n2 d2, .int .i32 oo.fin, .int .i64 (oo.pos : Int)] 48)) := (Only.refl _ w4).alloc _
                  have hszC : (w4.alloc (.cells #[.int .i64 (oo.kind : Int), .int .u32 (oo.fr : Int), .int .u32 (oo.too : Int), .string ⟨oo.name.toArray⟩, .slice a1 n1 d1, .slice a2 n2 d2, .int .i32 oo.fin, .int .i64 (oo.pos : Int)] 48)).heap.size = w4.heap.size + 1 := Array.size_push _
                  have O6 : Only (fun q => (Value.slice po vals.length co).ownBlock = some q) (w4.alloc (.cells #[.int .i64 (oo.kind : Int), .int .u32 (oo.fr : Int), .int .u32 (oo.too : Int), .string ⟨oo.name.toArray⟩, .slice a1 n1 d1, .slice a2 n2 d2, .int .i32 oo.fin, .int .i64 (oo.pos : Int)] 48)) w6 := ⟨hb6.os, hb6.tape, hb6.output, hb6.size, fun q hq hn => hk6 q hq hn⟩
                  have hng : ∀ q, q < wS.heap.size → ¬ (Value.slice po vals.length co).ownBlock = some q := fun q hq e => by have := (ownW_lt how4 e).1; omega
                  have p6 : QsAt w6 g b l4 er4 := (hp4.only OB (fun h => h) (fun h => h)).only O6 (hng _ (by omega)) (hng _ (by omega))
                  have hb8 : Below w.heap.size w w6 := (hB4.trans (OB.below (S := fun _ => False) hB4.size (fun k hk h => h))).trans (hb6.mono (by omega))
                  have hvb : ∀ q, (Value.slice po vals.length co).ownBlock = some q → q < wo.heap.size := fun q e => (ownW_lt HH.out.1 e).2
                  have hall : er4 = none → ∀ x ∈ vals ++ [(oo, Value.slice a1 n1 d1, Value.slice a2 n2 d2)], okP w6 x ∧ ∀ q, (x.2.1.ownBlock = some q ∨ x.2.2.ownBlock = some q) → wS.heap.size ≤ q ∧ q < w6.heap.size ∧ v6.ownBlock ≠ some q := fun he4 x hx => by
                    have key : okP w4 x ∧ ∀ q, (x.2.1.ownBlock = some q ∨ x.2.2.ownBlock = some q) → wS.heap.size ≤ q ∧ q < w4.heap.size ∧ ¬ (Value.slice po vals.length co).ownBlock = some q := by
                      rcases List.mem_append.1 hx with hx | hx
                      · have h := HR1.out.2 x hx
                        have hs := OY.size
                        exact ⟨okP_only h.1 OY (fun q hq e => by have e : q = g := e; have := h.2 q hq; omega), fun q hq => by have := h.2 q hq; exact ⟨this.1, by omega, this.2.2⟩⟩
                      · obtain rfl := List.mem_singleton.1 hx
                        have hfq : ∀ q, ((Value.slice a1 n1 d1).ownBlock = some q ∨ (Value.slice a2 n2 d2).ownBlock = some q) → wr.heap.size ≤ q ∧ q < w3.heap.size := h3.2.1
                        have h7 := O4.size
                        have her : er' = none := by
                          rcases er' with _ | e
                          · rfl
                          · rw [qneed_err] at hr4
                            simp only [Prod.mk.injEq] at hr4
                            rw [hr4.2.2] at he4
                            cases he4
                        have hok3 : okP w3 (oo, Value.slice a1 n1 d1, Value.slice a2 n2 d2) := by
                          have h8 := h3.2.2.1
                          rcases hro : Sc.restOf j0 lr.tail with e | ⟨o, l5⟩
                          · rw [hro] at h8
                            have h8 : er' = some e := h8
                            rw [her] at h8
                            cases h8
                          · rw [hro] at h8
                            exact ⟨h8.2.2.2.1, h8.2.2.2.2⟩
                        refine ⟨okP_only hok3 O4 (fun q hq e => by have e : q = g := e; have := hfq q hq; omega), fun q hq => ?_⟩
                        have h5 := hfq q hq
                        refine ⟨by omega, by omega, fun e => ?_⟩
                        have := hvb q e
                        omega
                    refine ⟨okP_only (okP_only key.1 OB (fun q hq h => h)) O6 (fun q hq => (key.2 q hq).2.2), fun q hq => ?_⟩
                    have h5 := key.2 q hq
                    refine ⟨h5.1, by omega, ?_⟩
                    rcases hv6 with e | e
                    · rw [e]; exact h5.2.2
                    · rw [e]; intro e2; injection e2 with e2; omega
                  have HR6 := Lib.hid hr6
                  have hlen4 : l4.length ≤ 65537 := by
                    have a1 : l4.length ≤ l'.length := hE4.2
                    have a2 := h3.2.2.2.2.2.2
                    have a3 := HH.out.2.2.1.2
                    rw [List.length_tail] at a2
                    omega
                  have H6 := Lib.hid (And.intro ho6 (And.intro p6 (And.intro hb8 (And.intro hall (And.intro hE4.1 (And.intro hlen4 (show wS.heap.size ≤ w6.heap.size by omega)))))))
                  have HR4 := Lib.hid hr4
                  obtain ⟨pv6, cv6, rfl⟩ := own_slc ho6
                  clear hE4 hr4 hp4 O4 h3 hnn hN hhs OX hsz4 hszr OY how4 hB4 hr6 ho6 hb6 hk6 hv6 hsz6 OB hszC O6 hng p6 hb8 hvb hall hlen4
                  unfold tk
                  go_wp2_with (first
                    | (at_builtin; refine ev_run rfl (run_app_op _ _ _ _ rfl rfl rfl HR6.out) ?_)
                    | (refine ev_load (N := 88) rfl rfl 48 (.tmp 10) rfl ho rfl R4 _ Tryz.underlying48 rfl (by kernel_rfl) ?_))
                  have h6 := H6.out
                  have hn8 := HN8.out
                  have hle := HH.out.2.2.2.1
                  refine ⟨⟨_, vals ++ [(oo, .slice a1 n1 d1, .slice a2 n2 d2)], l4, er4, rfl, by rw [List.length_append]; exact h6.1, h6.2.1, ⟨h6.2.2.2.2.1, h6.2.2.2.2.2.1⟩, by rw [List.length_append]; simp; omega, ⟨fun he => ⟨?_, h6.2.2.2.1 he⟩, fun e he => ?_⟩, h6.2.2.2.2.2.2, h6.2.2.1⟩, ?_⟩
                  · have hr4 := HR4.out
                    have h8 := H3.out.2.2.1
                    have her : er' = none := by
                      rcases er' with _ | e
                      · rfl
                      · rw [qneed_err] at hr4
                        simp only [Prod.mk.injEq] at hr4
                        rw [hr4.2.2] at he
                        cases he
                    rcases hro : Sc.restOf j0 lr.tail with e | ⟨o, l5⟩
                    · rw [hro] at h8
                      have h8 : er' = some e := h8
                      rw [her] at h8
                      cases h8
                    · rw [hro] at h8
                      obtain ⟨_, rfl, h9, _⟩ := h8
                      rw [her, qneed_must] at hr4
                      rcases hmu : Sc.must 5 [59] l' with e | ⟨t5, l6⟩
                      · rw [hmu] at hr4
                        simp only [Prod.mk.injEq] at hr4
                        rw [hr4.2.2] at he
                        cases he
                      · rw [hmu] at hr4
                        simp only [Prod.mk.injEq] at hr4
                        obtain ⟨_, rfl, _⟩ := hr4
                        rw [HR1.out.1, HF.out, Sc.parseOf_more HK.out HN8.out HKJ.out.1 hro hmu, List.map_append, List.length_append, List.length_singleton]
                        have hf := HF.out
                        rw [show 101 - (vals.length + 1) = f by omega, ← HPOS.out, ← h9]
                        rfl
                  · have hr4 := HR4.out
                    have h8 := H3.out.2.2.1
                    rw [HR1.out.1, HF.out]
                    rcases hro : Sc.restOf j0 lr.tail with e5 | ⟨o, l5⟩
                    · rw [hro] at h8
                      have h8 : er' = some e5 := h8
                      rw [h8, qneed_err] at hr4
                      simp only [Prod.mk.injEq] at hr4
                      rw [hr4.2.2] at he
                      cases he
                      rw [Sc.parseOf_rest HK.out HN8.out HKJ.out.1 hro]
                      rfl
                    · rw [hro] at h8
                      obtain ⟨her, rfl, _⟩ := h8
                      rw [her, qneed_must] at hr4
                      rcases hmu : Sc.must 5 [59] l' with e5 | ⟨t5, l6⟩
                      · rw [hmu] at hr4
                        simp only [Prod.mk.injEq] at hr4
                        rw [hr4.2.2] at he
                        cases he
                        rw [Sc.parseOf_must HK.out HN8.out HKJ.out.1 hro hmu]
                        rfl
                      · rw [hmu] at hr4
                        simp only [Prod.mk.injEq] at hr4
                        rw [hr4.2.2] at he
                        cases he
                  · have := HF.out
                    show 101 - (vals.length + 1) < 101 - vals.length
                    omega
      · have cg2 : wr.cell? ⟨g, 2, none⟩ = some (.int .i64 (ec : Int)) := RG.cell 2
        have cg1 : wr.cell? ⟨g, 1, none⟩ = some (.int .i64 (p : Int)) := RG.cell 1
        have j2 : ¬ (ec : Int) = 0 := by have := her (p, ec) rfl; simp at this; omega
        have HR2 := Lib.hid (hrel.2 (p, ec) rfl)
        clear how hE hrel hsz hbw RG hTk hc1 hc2 hne her hl k0 k4 hle
        go_wp2_with fail
        go_quiet (fail)
        go_wp2_with fail
        exact bodyPost_ret (v := .tuple #[.slice none 0 0, .int .i64 (p : Int), .int .i64 (ec : Int)]) (by simp [results, Tryz.results18, go_sem]) rfl ⟨by rw [HPP.out, HR2.out]; rfl, below_dN HH.out.2.2.2.2.2.2 nq⟩
end Go.Proofs.YtbhjkddjgikaiaaGreatDoor

namespace Go.Proofs.YtbhjkddjgikaiaaGreatDoor
set_option linter.unusedVariables false
set_option linter.unusedSimpArgs false
set_option autoImplicit false
namespace Sc
open Lx
theorem restOf_bd {k : Nat} {l r : List Tk} {o : Op} (h : restOf k l = .ok (o, r)) (hE : Ended l) (hl : l.length ≤ 100000) : o.parts.length ≤ 1000000 ∧ o.starts.length ≤ 1000000 := by
  unfold restOf at h
  split at h
  · have hd := daysOf_ended l hE
    rcases h1 : must 1 (link 7) (daysOf l).2 with e | ⟨t, l1⟩
    · rw [h1] at h; cases h
    · rw [h1] at h
      dsimp only at h
      rcases h2 : must 3 [] l1 with e | ⟨t, l2⟩
      · rw [h2] at h; cases h
      · rw [h2] at h
        simp only [Except.ok.injEq, Prod.mk.injEq] at h
        rw [← h.1]
        exact ⟨by simp [op0], by show (daysOf l).1.length ≤ _; omega⟩
  · rcases h1 : num 1 (most k) l with e | ⟨n, l1⟩
    · rw [h1] at h; cases h
    · rw [h1] at h
      have k1 := num_ok h1 hE
      dsimp only at h
      split at h
      · rcases h2 : must 4 [] l1 with e | ⟨t, l2⟩
        · rw [h2] at h; cases h
        · rw [h2] at h
          simp only [Except.ok.injEq, Prod.mk.injEq] at h
          rw [← h.1]
          exact ⟨by simp [op0], by simp [op0]⟩
      · rcases h2 : must 1 (link k) l1 with e | ⟨t, l2⟩
        · rw [h2] at h; cases h
        · rw [h2] at h
          have k2 := must_ended h2 (by omega) k1.2.2.1
          dsimp only at h
          split at h
          · rcases h3 : partsOf 8 l2 with e | ⟨ps, l3⟩
            · rw [h3] at h; cases h
            · rw [h3] at h
              have k3 := partsOf_ok 8 _ _ _ h3 k2.1
              simp only [Except.ok.injEq, Prod.mk.injEq] at h
              rw [← h.1]
              exact ⟨by show ps.length ≤ _; omega, by simp [op0]⟩
          · rcases h3 : num (least k) (most k) l2 with e | ⟨m, l3⟩
            · rw [h3] at h; cases h
            · rw [h3] at h
              simp only [Except.ok.injEq, Prod.mk.injEq] at h
              rw [← h.1]
              exact ⟨by simp [op0], by simp [op0]⟩
theorem parseOf_bd : ∀ (f n : Nat) (l : List Tk) (ops : List Op), parseOf f n l = .ok ops → Ended l → l.length ≤ 100000 → (∀ o ∈ ops, o.parts.length ≤ 1000000 ∧ o.starts.length ≤ 1000000) ∧ ops.length ≤ f
  | 0, n, l, ops, h, _, _ => by
    unfold parseOf at h
    cases h
    exact ⟨fun o ho => (by cases ho), Nat.le_refl _⟩
  | f + 1, n, l, ops, h, hE, hl => by
    by_cases h0 : (hd l).kind = 0
    · rw [parseOf_end h0] at h
      cases h
      exact ⟨fun o ho => (by cases ho), by simp⟩
    · by_cases hn : n = 100
      · subst hn
        rw [parseOf_full h0] at h
        cases h
      · rcases hk : kindOf l with _ | k
        · rw [parseOf_word h0 hn hk] at h
          cases h
        · have hE1 := hE.tail h0
          have hl1 : l.tail.length ≤ 100000 := by rw [List.length_tail]; omega
          rcases hr : restOf k l.tail with e | ⟨o, l1⟩
          · rw [parseOf_rest h0 hn hk hr] at h
            cases h
          · have hb := restOf_bd hr hE1 hl1
            have hE2 := restOf_ended hr hE1
            rcases hm : must 5 [59] l1 with e | ⟨t, l2⟩
            · rw [parseOf_must h0 hn hk hr hm] at h
              cases h
            · have hE3 := must_ended hm (by omega) hE2.1
              have hmm := parseOf_more (f := f) h0 hn hk hr hm []
              rw [preO_nil, h] at hmm
              rcases hp : parseOf f (n + 1) l2 with e | r
              · rw [hp] at hmm
                cases hmm
              · rw [hp] at hmm
                have e1 : Except.ok ops = Except.ok (([] ++ [{ o with pos := (hd l).pos }]) ++ r) := hmm
                simp only [Except.ok.injEq] at e1
                have ih := parseOf_bd f (n + 1) l2 r hp hE3.1 (by omega)
                rw [e1]
                refine ⟨fun q hq => ?_, by simp; omega⟩
                simp only [List.nil_append, List.cons_append, List.mem_cons] at hq
                rcases hq with rfl | hq
                · exact hb
                · exact ih.1 q hq
theorem parse_bd {pd : List UInt8 → Option Int} {s : List UInt8} {ops : List Op} (h : parse pd s = .ok ops) : (∀ o ∈ ops, o.parts.length ≤ 1000000 ∧ o.starts.length ≤ 1000000) ∧ ops.length ≤ 101 := by
  unfold parse at h
  split at h
  · cases h
  · rename_i h0
    rcases hs : split pd s 0 with e | ts
    · rw [hs] at h; cases h
    · rw [hs] at h
      have hE := split_ended pd _ s 0 (Nat.le_refl _) ts hs
      exact parseOf_bd 101 0 ts ops h hE.1 (by omega)
end Sc
end Go.Proofs.YtbhjkddjgikaiaaGreatDoor

namespace Go.Proofs.YtbhjkddjgikaiaaGreatDoor
open Go
theorem strip_cut (rest : List (List Char)) : stripLifts liftWords ("cut".toList :: rest) = ([], "cut".toList :: rest) := by
  kernel_rfl
theorem cut_enters {P : Program} {rest : List (List Char)} (h : behindMainWord (wordsSigns P.initOrder.toList) = "cut".toList :: rest) (hl : P.laysLater = false) (hr : P.bearsReflect = false) (hd : P.doorFits [] = true) : P.mayEnter = true ∧ P.liftsFinal = false ∧ P.make = some .cut := by
  refine ⟨?_, ?_, ?_⟩
  · unfold Program.mayEnter
    rw [h]
    simp only [strip_cut, hl, hr, hd]
    kernel_rfl
  · unfold Program.liftsFinal Program.headLifts
    rw [h]
    simp only [strip_cut]
    kernel_rfl
  · unfold Program.make Program.headLifts
    rw [h]
    rfl
theorem rec_of {P : Program} {f : FuncId} (h : P.unfollowed f = true) : P.recurses f = true := by
  unfold Program.recurses
  rw [h]
  rfl
theorem joined_of {P : Program} {f : FuncId} {fn : Func} {s : ChangeSpec} {c : OpenClaim}
    (p1 : laidOutB P = true) (p2 : mapsRowed P = true) (p3 : (P.stops == []) = true) (p4 : (P.stopKnobs == []) = true) (p5 : P.stopsHeard = true) (p6 : P.mayEnter = true ∧ P.liftsFinal = false ∧ P.make = some .cut) (p7 : P.plainKeys = true)
    (h1 : c.wf (OpenSpec.ofChange s) = true) (h2 : fn.params.all (P.readableRec ·) = true) (h3 : namedTie P c.named s.vars = true)
    (h4 : (c.stops == [] && c.knobs == [] && c.plainKeys && c.shortTexts.isNone && !c.lifted && (some Make.cut == some c.make) && c.recurses) = true)
    (h5 : (c.inPlace == P.inPlace f) = true) (h6 : P.unfollowed f = true) (h7 : c.unfollowed = true) (h8 : (c.named == P.varsNamed f) = true)
    (h9 : ((c.maps == (fn.params.toList ++ s.plain.varTypes P).any (P.mapsRec ·)) && (c.ifaces == (fn.params.toList ++ s.plain.varTypes P).any (P.ifacesRec ·)) && (c.mapsOut == P.mapsAmong fn.resultTypes.toList)) = true)
    (h10 : ((c.loops == (fn.params.toList ++ s.plain.varTypes P).any (P.loopsFrom ·)) && (c.wideKeys == (fn.params.toList ++ s.plain.varTypes P ++ fn.resultTypes.toList).any (P.wideKeysFrom ·))) = true)
    (h11 : s.vars.all (P.varReadable ·) = true) (h12 : (fn.resultTypes.all (fun t => P.readableRec t && decide (t < P.types.size)) && (c.ifacesOut == fn.resultTypes.toList.any (P.ifacesRec ·)) && (c.loopsOut == fn.resultTypes.toList.any (P.loopsFrom ·))) = true)
    (h13 : (c.kinds == (if c.domain.isEmpty then [] else fn.params.toList.map fun t => match P.underlying t with | some (.int k) => some k | _ => none)) = true) (h14 : (c.pinned == c.pinnedBy) = true)
    (h15 : (c.veiled == (fn.params.toList ++ s.plain.varTypes P ++ fn.resultTypes.toList).any (P.veiledRec ·)) = true) (h16 : c.veiledFits P fn.params.toList (fn.params.toList ++ s.plain.varTypes P ++ fn.resultTypes.toList) = true) : joinedFacts P f fn s c = true := by
  obtain ⟨q1, q2, q3⟩ := p6
  have h6' := rec_of h6
  simp only [Bool.and_eq_true, Bool.not_eq_true'] at h4 h9 h10 h12
  obtain ⟨⟨⟨⟨⟨⟨a1, a2⟩, a3⟩, a4⟩, a5⟩, a6⟩, a7⟩ := h4
  obtain ⟨⟨b1, b2⟩, b3⟩ := h9
  obtain ⟨b4, b5⟩ := h10
  obtain ⟨⟨b6, b7⟩, b8⟩ := h12
  unfold joinedFacts
  simp only [Bool.and_eq_true]
  exact ⟨⟨⟨⟨⟨⟨⟨⟨⟨⟨⟨⟨⟨⟨⟨⟨⟨⟨⟨⟨⟨⟨⟨⟨⟨⟨⟨⟨⟨⟨⟨h1, p1⟩, p2⟩, h2⟩, h3⟩, a1⟩, p3⟩, a2⟩, p4⟩, h5⟩, by rw [h6, h7]; rfl⟩, by rw [h6', a7]; rfl⟩, h8⟩, b1⟩, b2⟩, b3⟩, b4⟩, b5⟩, h11⟩, b6⟩, b7⟩, b8⟩, by rw [p7, a3]; rfl⟩, a4⟩, p5⟩, q1⟩, by rw [q2, a5]; rfl⟩, by rw [q3]; exact a6⟩, h13⟩, h14⟩, h15⟩, h16⟩
theorem noGo {P : Program} (h : P.funcs.any Func.goes = false) (f : FuncId) : P.goes f = false := by
  have h0 : ∀ g : Nat, (P.funcs[g]?).any Func.goes = false := fun g => by
    cases hg : P.funcs[g]? with
    | none => rfl
    | some fn =>
      obtain ⟨hlt, he⟩ := Array.getElem?_eq_some_iff.1 hg
      have := Array.any_eq_false.1 h g hlt
      rw [he] at this
      simpa using this
  unfold Program.goes
  rw [h, Bool.and_false, Bool.or_false, List.any_eq_false]
  intro g _
  rw [h0 g]
  simp
theorem goes_of {P : Program} {c : OpenClaim} (h : P.funcs.any Func.goes = false) (hs : c.start = .entering) : false = c.goesBy P := by
  unfold OpenClaim.goesBy Program.goesAt Program.goesFrom
  rw [hs]
  cases P.funcNamed c.func with
  | none => rfl
  | some f => simp [noGo h f]
theorem pNoGo : Tryz.prog.funcs.any Func.goes = false := by kernel_rfl
theorem pLaid : laidOutB Tryz.prog = true := by kernel_rfl
theorem pMaps : mapsRowed Tryz.prog = true := by kernel_rfl
theorem pStops : (Tryz.prog.stops == []) = true := by kernel_rfl
theorem pKnobs : (Tryz.prog.stopKnobs == []) = true := by kernel_rfl
theorem pHeard : Tryz.prog.stopsHeard = true := by kernel_rfl
theorem pKeys : Tryz.prog.plainKeys = true := by kernel_rfl
theorem pLater : Tryz.prog.laysLater = false := by kernel_rfl
theorem pRefl : Tryz.prog.bearsReflect = false := by kernel_rfl
theorem pFits : Tryz.prog.doorFits [] = true := by kernel_rfl
theorem pHead : (behindMainWord (wordsSigns Tryz.prog.initOrder.toList)).head? = some "cut".toList := by kernel_rfl
theorem pEnter : Tryz.prog.mayEnter = true ∧ Tryz.prog.liftsFinal = false ∧ Tryz.prog.make = some .cut := by
  have h := pHead
  cases hw : behindMainWord (wordsSigns Tryz.prog.initOrder.toList) with
  | nil => rw [hw] at h; cases h
  | cons a r =>
    rw [hw] at h
    obtain rfl : a = "cut".toList := Option.some.inj h
    exact cut_enters hw pLater pRefl pFits
end Go.Proofs.YtbhjkddjgikaiaaGreatDoor
