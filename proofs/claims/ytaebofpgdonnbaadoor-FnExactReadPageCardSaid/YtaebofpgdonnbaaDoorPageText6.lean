/- Contracts: the lines of a page, of the reference. -/
import Derived.Test.YtaebofpgdonnbaaDoorPageText5
import Derived.Deep.DeepCutAuto
set_option linter.unusedVariables false
set_option linter.unusedSimpArgs false
namespace Go.Proofs.YtaebofpgdonnbaaDoor
open Go.RowKit

set_option maxRecDepth 100000 in
set_option maxHeartbeats 4000000 in
theorem l18Lines_c (b : Nat) (s : ByteArray) (f t : Int) (A : Option Addr) (n c : Nat) (l : List Int) (W : World) (hs : s.size ≤ 1048576) (hn : l.length = n) (hr : Rd W W.heap.size 1 icell A l) (hpb : pageB s f t l = true) (hp : PgAt W b s f t A n c) (hbl : b < W.heap.size) :
    Calls Tryd.prog 52 #[.pointer (some ⟨b, 0, none⟩)] W fun e w' => ∃ v, e = .returned v ∧ w'.ownsRow W.heap.size 9 1 v (linesR s f t l n ++ [footT l]).length ((linesR s f t l n ++ [footT l]).map Value.string) ∧ Below W.heap.size W w' := by
  obtain ⟨i0, hi0, hy0, hy1, hy2⟩ := info_parts info_str
  have HN := Lib.hid hn; clear hn
  obtain ⟨qf, qt, qn, qv⟩ := pageB_parts hpb
  rw [HN.out] at qn
  have HQV := Lib.hid qv
  clear hpb qv
  have z1 := dec_size f (by omega)
  have z2 := dec_size t (by omega)
  have z3 := dec_size (n : Int) (by omega)
  have HA := Lib.hid (l01Dec_c f · (by omega))
  have HV := Lib.hid (l01Dec_c t · (by omega))
  have HG := Lib.hid (l01Dec_c (n : Int) · (by omega))
  have HX := Lib.hid (show headT s f t (n : Int) = s ++ ⟨#[32]⟩ ++ dec f ++ ⟨#[32]⟩ ++ dec t ++ ⟨#[32]⟩ ++ dec (n : Int) from rfl)
  have hl0 := Lib.hid (show (linesR s f t l 0).map Value.string = [.string (headT s f t (n : Int))] by unfold linesR; rw [HN.out]; rfl)
  generalize headT s f t (n : Int) = T at *
  generalize dec f = DA at *
  generalize dec t = DV at *
  generalize dec (n : Int) = DS at *
  have s0 : (⟨#[32]⟩ : ByteArray).size = 1 := rfl
  have y1 : ¬ 9223372036854775807 < s.size + 1 := by omega
  have y2 : ¬ 9223372036854775807 < s.size + 1 + DA.size := by omega
  have y3 : ¬ 9223372036854775807 < s.size + 1 + DA.size + 1 := by omega
  have y4 : ¬ 9223372036854775807 < s.size + 1 + DA.size + 1 + DV.size := by omega
  have y5 : ¬ 9223372036854775807 < s.size + 1 + DA.size + 1 + DV.size + 1 := by omega
  have y6 : ¬ 9223372036854775807 < s.size + 1 + DA.size + 1 + DV.size + 1 + DS.size := by omega
  have HP := Lib.hid hp
  obtain ⟨g0, g1, g2, g3⟩ := hp
  have hfar := far hbl
  go_enter Tryd.func52, Tryd.ntmps52
  go_upto_region 1 with fail
  go_cut [3] (fun v wx => wx.ownsRow W.heap.size 9 1 v 1 [.string T] ∧ Below W.heap.size W wx)
  case first =>
    go_region_held3 (fun w' => (∀ b o, b < W.heap.size → w'.cell? ⟨b, o, none⟩ = W.cell? ⟨b, o, none⟩) ∧ Below W.heap.size W w') (exact old_of (by (repeat' (first | (with_reducible exact Below.refl _ _) | (with_reducible assumption) | (with_reducible refine below_drewN ?_ _) | (with_reducible refine Below.drew ?_) | (with_reducible refine Below.alloc ?_ ?_ _) | (with_reducible refine Below.setCell ?_ ?_ _) | (with_reducible refine via (by with_reducible assumption) ?_ ?_) | go_size)))) (first | (go_at_call_of 80 (Value.int .i64 f); refine (HA.out _).mono ?_; rintro e wa ⟨rfl, hba⟩; have hSa : Below W.heap.size W wa := (by (repeat' (first | (with_reducible exact Below.refl _ _) | (with_reducible assumption) | (with_reducible refine below_drewN ?_ _) | (with_reducible refine Below.drew ?_) | (with_reducible refine Below.alloc ?_ ?_ _) | (with_reducible refine Below.setCell ?_ ?_ _) | (with_reducible refine via (by with_reducible assumption) ?_ ?_) | go_size))); obtain ⟨hca, hfa⟩ := bcell hSa; have hsa := hSa.size) | (go_at_call_of 80 (Value.int .i64 t); refine (HV.out _).mono ?_; rintro e wb ⟨rfl, hbb⟩; have hSb : Below W.heap.size W wb := (by (repeat' (first | (with_reducible exact Below.refl _ _) | (with_reducible assumption) | (with_reducible refine below_drewN ?_ _) | (with_reducible refine Below.drew ?_) | (with_reducible refine Below.alloc ?_ ?_ _) | (with_reducible refine Below.setCell ?_ ?_ _) | (with_reducible refine via (by with_reducible assumption) ?_ ?_) | go_size))); obtain ⟨hcb, hfb⟩ := bcell hSb; have hsb := hSb.size) | (go_at_call_of 80 (Value.int .i64 (n : Int)); refine (HG.out _).mono ?_; rintro e wd ⟨rfl, hbd⟩; have hSd : Below W.heap.size W wd := (by (repeat' (first | (with_reducible exact Below.refl _ _) | (with_reducible assumption) | (with_reducible refine below_drewN ?_ _) | (with_reducible refine Below.drew ?_) | (with_reducible refine Below.alloc ?_ ?_ _) | (with_reducible refine Below.setCell ?_ ?_ _) | (with_reducible refine via (by with_reducible assumption) ?_ ?_) | go_size))); obtain ⟨hcd, hfd⟩ := bcell hSd; have hsd := hSd.size))
    all_goals
      (go_wp2_with fail; refine Met.intro ?_; apply_assumption; (repeat apply Exists.intro); refine ⟨?_, rfl⟩)
      rw [HX.out]
      exact ⟨own_base (own_lit _ _ _) (by (try simp only [World.size_alloc, size_drewN, World.size_setCell, World.size_drew]); omega), by (repeat' (first | (with_reducible exact Below.refl _ _) | (with_reducible assumption) | (with_reducible refine below_drewN ?_ _) | (with_reducible refine Below.drew ?_) | (with_reducible refine Below.alloc ?_ ?_ _) | (with_reducible refine Below.setCell ?_ ?_ _) | (with_reducible refine via (by with_reducible assumption) ?_ ?_) | go_size))⟩
  case rest =>
    obtain ⟨hown0, hbc⟩ := hcut
    have HR := Lib.hid hr
    clear g0 g1 g2 g3 hfar y1 y2 y3 y4 y5 y6 HX z1 z2 z3 HA HV HG hr
    rw [← hl0.out] at hown0
    go_wp2_with fail
    go_loopw [3, 4] (fun o i wr => ∃ k : Nat, k ≤ n ∧ i = .int .i64 k ∧ Below W.heap.size W wr ∧ wr.ownsRow W.heap.size 9 1 o (k + 1) ((linesR s f t l k).map Value.string)) (fun _ i _ => n - (intOf i).toNat)
    case atStart => exact ⟨0, Nat.zero_le _, rfl, hbc, hown0⟩
    case round =>
      clear hown0 hbc hl0
      obtain ⟨k, hk, rfl, hb, hx⟩ := hrel
      have HX := Lib.hid hx; clear hx
      obtain ⟨g0, g1, g2, g3⟩ := HP.out
      obtain ⟨hcr, hfr⟩ := bcell hb
      have hbs := hb.size
      have hfar := far (show b < wr.heap.size by omega)
      by_cases hlt : k < n
      · obtain ⟨x, hx⟩ := get_ex l k (by rw [HN.out]; omega)
        have hxb := HQV.out x (List.mem_of_getElem? hx)
        have hkt := rows_bd (n := (k : Int)) (t := t) (by omega) qt
        have HS := Lib.hid (linesR_succ (s := s) (f := f) (t := t) hx)
        obtain ⟨ba, off, rfl, hba, hc⟩ := HR.out.ints' (by rw [HN.out]; omega)
        have hgk := hc k x hx
        clear hx hc
        have hfb := far (show ba < wr.heap.size by omega)
        have e1 : IntKind.i64.wrap ((k : Int) * t) = (k : Int) * t := IntWalk.i64_in _ (by omega)
        have e2 : IntKind.i64.wrap (f + (k : Int) * t) = f + (k : Int) * t := IntWalk.i64_in _ (by omega)
        have HL := Lib.hid (fun w' => l18Row_c (f + (k : Int) * t) x w' (by omega) hxb)
        generalize rowT (f + (k : Int) * t) x = R at *
        clear hkt
        have p1 : (0 : Int) ≤ (k : Int) := by omega
        have p2 : (k : Int) < (n : Int) := by omega
        go_wp2_with fail
        go_region_held3 (fun w' => (∀ b o, b < W.heap.size → w'.cell? ⟨b, o, none⟩ = W.cell? ⟨b, o, none⟩) ∧ Below W.heap.size W w') (exact old_of (by (repeat' (first | (with_reducible exact Below.refl _ _) | (with_reducible assumption) | (with_reducible refine below_drewN ?_ _) | (with_reducible refine Below.drew ?_) | (with_reducible refine Below.alloc ?_ ?_ _) | (with_reducible refine Below.setCell ?_ ?_ _) | (with_reducible refine via (by with_reducible assumption) ?_ ?_) | go_size))))
          (first
            | (go_at_call 88; refine (HL.out _).mono ?_; rintro e w5 ⟨rfl, hb5⟩; have HN5 := Lib.hid (own_call (HX.out.drew) hb5); obtain ⟨hc5, hf5⟩ := bcell hb5; have hz5 := hb5.size; (try simp only [World.size_alloc, size_drewN, World.size_setCell, World.size_drew] at hz5 hc5 hf5))
            | ((refine app_step (W := W) (z := .string ByteArray.empty) (.tmp 41) (.tmp 61) (by rfl) (by rfl) Tryd.underlying22 hi0 hy0 hy1 hy2 rfl (by decide) (by decide) (by rfl) (HN5.out.alloc _) (by rfl) (by rfl) (news1 (z := .string R) (by simp [go_sem])) (by simp [Value.oneCell']) (by omega) (by (repeat' (first | (with_reducible exact Below.refl _ _) | (with_reducible assumption) | (with_reducible refine below_drewN ?_ _) | (with_reducible refine Below.drew ?_) | (with_reducible refine Below.alloc ?_ ?_ _) | (with_reducible refine Below.setCell ?_ ?_ _) | (with_reducible refine via (by with_reducible assumption) ?_ ?_) | go_size))) (Nat.le_refl _) ?_; intro v3 w3 hown3 _ _ hb3)))
        have HO := Lib.hid hown3; clear hown3
        go_wp2_with fail
        go_roundw
        case rel => exact ⟨k + 1, by omega, by go_num, hb3, by rw [HS.out, List.map_append]; exact HO.out⟩
        case measure => simp [intOf]; omega
      · obtain rfl : k = n := by omega
        have HF := Lib.hid (l18Foot_c b s f t A k c l wr HN.out (by omega) ((HR.out.below hb).mono hb.size) HQV.out (HP.out.below hb hbl))
        have hfp := footP_bd l k (by omega)
        have HT := Lib.hid (show footT l = ⟨#[115, 117, 109, 32]⟩ ++ dec (footP l k % 97) by unfold footT; rw [HN.out])
        have zd := dec_size (footP l k % 97) (by omega)
        have HD := Lib.hid (fun w' => l01Dec_c (footP l k % 97) w' (by omega))
        have hlen : (linesR s f t l k ++ [footT l]).length = k + 1 + 1 := by rw [List.length_append, linesR_len]; rfl
        have HLN := Lib.hid hlen; clear hlen
        obtain ⟨R, hR⟩ : ∃ R, R = footT l := ⟨_, rfl⟩
        rw [← hR] at HLN HT
        have HR0 := Lib.hid hR; clear hR
        generalize dec (footP l k % 97) = D at *
        clear hfp
        generalize footP l k % 97 = q at *
        have s1 : (⟨#[115, 117, 109, 32]⟩ : ByteArray).size = 4 := rfl
        go_wp2_with fail
        refine HF.out.mono ?_
        rintro e w2 ⟨rfl, rfl⟩
        go_wp2_with fail
        refine (HD.out _).mono ?_
        rintro e w3 ⟨rfl, hb3⟩
        have HX3 := Lib.hid (own_call HX.out hb3)
        have hbw3 : Below W.heap.size W w3 := hb.trans (hb3.mono hbs)
        have hbs3 := hbw3.size
        have y0 : ¬ 9223372036854775807 < 4 + D.size := by omega
        clear g0 g1 g2 g3 hfar hcr hfr
        go_wp2_with (at_builtin; refine app_list (W := W) (z := .string ByteArray.empty) (.tmp 63) (.tmp 68) rfl rfl Tryd.underlying22 hi0 hy0 hy1 hy2 rfl (by decide) (by decide) rfl (HX3.out.alloc _) rfl rfl (news1 (z := .string R) (by rw [HT.out]; simp [go_sem])) (by simp [Value.oneCell']) (by omega) (by (repeat' (first | (with_reducible exact Below.refl _ _) | (with_reducible assumption) | (with_reducible refine below_drewN ?_ _) | (with_reducible refine Below.drew ?_) | (with_reducible refine Below.alloc ?_ ?_ _) | (with_reducible refine Below.setCell ?_ ?_ _) | (with_reducible refine via (by with_reducible assumption) ?_ ?_) | go_size))) (Nat.le_refl _) ?_; intro v1 w4 hown1 hg1 hblk1 hb4)
        go_ret
        refine ⟨v1, rfl, ?_, hb4⟩
        have h2 := HLN.out
        simp only [List.length_append, List.length_cons, List.length_nil] at h2 ⊢
        rw [h2, List.map_append, ← HR0.out]
        exact hown1

set_option maxRecDepth 100000 in
set_option maxHeartbeats 1000000 in
theorem PrintPageS_c (s : ByteArray) (f t : Int) (A : Option Addr) (n c : Nat) (l : List Int) (w : World) (hs : s.size ≤ 1048576) (hn : l.length = n) (hm : n ≤ 1048576) (hr : Rd w w.heap.size 1 icell A l) :
    Calls Tryd.prog 22 #[pg s f t A n c] w fun e w' => ∃ v, e = .returned (.tuple #[v, .int .i64 (printR s f t l).2]) ∧ w'.ownsRow w.heap.size 9 1 v (printR s f t l).1.length ((printR s f t l).1.map Value.string) ∧ Below w.heap.size w w' := by
  have HN := Lib.hid hn; clear hn
  unfold pg
  go_enter Tryd.func22, Tryd.ntmps22
  go_wp2_with fail
  refine gen_calls fun W hW => ?_
  have hbW : Below w.heap.size w W := by rw [hW.out]; (repeat' (first | (with_reducible exact Below.refl _ _) | (with_reducible assumption) | (with_reducible refine below_drewN ?_ _) | (with_reducible refine Below.drew ?_) | (with_reducible refine Below.alloc ?_ ?_ _) | (with_reducible refine Below.setCell ?_ ?_ _) | (with_reducible refine via (by with_reducible assumption) ?_ ?_) | go_size))
  have hp : PgAt W w.heap.size s f t A n c := by rw [hW.out]; unfold PgAt; simp [go_sem]
  have hlt : w.heap.size < W.heap.size := by rw [hW.out]; simp [go_sem]
  clear hW
  refine (l18Ok_c w.heap.size s f t A n c l W.heap.size W (by unfold maxLen; omega) HN.out hm ((hr.below hbW).mono hbW.size) hp).mono ?_
  rintro e W1 ⟨rfl, m, hm1⟩
  have hb1 : Below W.heap.size W W1 := by rw [hm1]; exact below_drewN (Below.refl _ _) m
  have HP1 := Lib.hid (hp.below hb1 hlt)
  have hlt1 : w.heap.size < W1.heap.size := Nat.lt_of_lt_of_le hlt hb1.size
  have hbW1 : Below w.heap.size w W1 := hbW.trans (hb1.mono hbW.size)
  clear hp hb1 hbW hlt hm1
  cases hpb : pageB s f t l
  · have HR := Lib.hid (show printR s f t l = ([], 1) by unfold printR; rw [hpb]; rfl)
    go_wp2_with fail
    refine bodyPost_ret (v := .tuple #[.slice none 0 0, .int .i64 1]) (by simp only [results, Tryd.results22]; go_simp) rfl ⟨.slice none 0 0, by rw [HR.out], by rw [HR.out]; exact World.ownsRow_nil _ _ _ _, hbW1⟩
  have HR := Lib.hid (show printR s f t l = (linesR s f t l n ++ [footT l], 0) by unfold printR; rw [hpb, if_pos rfl, HN.out])
  have HL := Lib.hid (l18Lines_c w.heap.size s f t A n c l W1 hs HN.out ((hr.below hbW1).mono hbW1.size) hpb HP1.out hlt1)
  clear hpb
  go_wp2_with fail
  refine HL.out.mono ?_
  rintro e W2 ⟨v, rfl, hown, hb2⟩
  have hO := Lib.hid (own_base hown (Nat.le_of_lt hlt1)); clear hown
  go_wp2_with fail
  refine bodyPost_ret (v := .tuple #[v, .int .i64 0]) (by simp only [results, Tryd.results22]; go_simp) rfl ⟨v, by rw [HR.out], by rw [HR.out]; exact hO.out, hbW1.trans (hb2.mono hbW1.size)⟩

theorem printR_len (s : ByteArray) (f t : Int) (l : List Int) : (printR s f t l).1.length ≤ 1048576 := by
  unfold printR
  split
  · rename_i h
    have := (pageB_parts h).2.2.1
    simp only [List.length_append, linesR_len, List.length_cons, List.length_nil]
    omega
  · exact Nat.zero_le _

end Go.Proofs.YtaebofpgdonnbaaDoor
