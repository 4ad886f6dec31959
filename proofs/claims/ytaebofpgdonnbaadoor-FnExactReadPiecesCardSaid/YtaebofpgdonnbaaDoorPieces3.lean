/- Contracts: what is an inventory, the program's side. -/
import Derived.Test.YtaebofpgdonnbaaDoorPieces2
import Derived.Test.YtaebofpgdonnbaaDoorNameMap
import Derived.Carry
set_option linter.unusedVariables false
set_option linter.unusedSimpArgs false
namespace Go.Proofs.YtaebofpgdonnbaaDoor
open Go.RowKit

def nmP (l : List PieceD) (k : Nat) : ByteArray := (getP l k).name
theorem newB_eq (l : List PieceD) (k : Nat) : newB l k = !seenB (nmP l) k (getP l k).name := by
  unfold newB seenB nmP
  rw [List.all_eq_not_any_not]
  simp
def sizesP (l : List PieceD) : Prop := ∀ d ∈ l, d.name.size ≤ maxLen
theorem sizesP_of {l : List PieceD} (h : ∀ d ∈ l, okP d) : sizesP l := fun d hd => (h d hd).1

set_option maxHeartbeats 4000000 in
theorem ValidPiecesI_c (A : Option Addr) (n c : Nat) (l : List PieceD) (w : World) (hn : l.length = n) (hm : n ≤ 1048576) (hr : Rd w w.heap.size 4 pcell A l) (ok : ∀ d ∈ l, okP d) :
    Calls Tryd.prog 62 #[.slice A n c] w fun e w' => e = .returned (.bool (validS l)) ∧ Below w.heap.size w w' := by
  rw [← valid_eq]
  have hs := sizesP_of ok
  have HN := Lib.hid hn; clear hn
  have hmm := @run_makeMap Tryd.prog
  cases hin : inB (n : Int) 1 40
  · have HF := Lib.hid (show validI l = false by unfold validI; rw [HN.out, hin]; rfl)
    go_enter Tryd.func62, Tryd.ntmps62
    go_wp2_with (go_at_call 95; refine (between_c _ _ _ _).mono ?_; rintro e w' ⟨rfl, rfl⟩)
    go_ret
    exact ⟨ret_bool HF.out.symm, Below.refl _ _⟩
  have h40 := inB_iff.1 hin
  obtain ⟨h1n, h40⟩ := h40
  have HIN := Lib.hid hin
  go_enter Tryd.func62, Tryd.ntmps62
  go_wp2_with (go_at_call 95; refine (between_c _ _ _ _).mono ?_; rintro e w' ⟨rfl, rfl⟩)
  clear hin
  go_loopw [14] (fun i wr => ∃ k : Nat, k ≤ n ∧ i = .int .i64 k ∧ (List.range k).all (okI l) = true ∧ Below w.heap.size w wr ∧ NMap wr w.heap.size k (nmP l)) (fun i _ => n - (intOf i).toNat)
  case atStart => exact ⟨0, Nat.zero_le _, rfl, by simp, by (repeat' (first | (with_reducible exact Below.refl _ _) | (with_reducible assumption) | (with_reducible refine below_drewN ?_ _) | (with_reducible refine Below.drew ?_) | (with_reducible refine Below.alloc ?_ ?_ _) | (with_reducible refine Below.setCell ?_ ?_ _) | (with_reducible refine via (by with_reducible assumption) ?_ ?_) | go_size)), NMap.made w _⟩
  case round =>
    obtain ⟨k, hk, rfl, ha, hb, hN⟩ := hrel
    obtain ⟨wk, rfl⟩ : ∃ w' : World, w' = wr := ⟨_, rfl⟩
    have HA := Lib.hid ha; clear ha
    have hbs := hb.size
    have hNl := hN.lt
    have HM := Lib.hid hN; clear hN
    by_cases hlt : k < n
    · obtain ⟨b1, off, rfl, hbl, hc⟩ := (hr.below hb).piece (by rw [HN.out]; omega)
      obtain ⟨d, hd⟩ := get_ex l k (by rw [HN.out]; omega)
      obtain ⟨g0, g1, g2, g3⟩ := hc k d hd
      have k1 := hs d (List.mem_of_getElem? hd)
      have hf1 := far (show b1 < wk.heap.size by omega)
      have HG := Lib.hid (getP_eq hd); clear hd hc
      have p1 : (0 : Int) ≤ (k : Int) := by omega
      have p2 : (k : Int) < (n : Int) := by omega
      go_upto_region 7 with fail
      refine gen_world fun W hW => ?_
      have hbW : Below wk.heap.size wk W := by rw [hW.out]; (repeat' (first | (with_reducible exact Below.refl _ _) | (with_reducible assumption) | (with_reducible refine below_drewN ?_ _) | (with_reducible refine Below.drew ?_) | (with_reducible refine Below.alloc ?_ ?_ _) | (with_reducible refine Below.setCell ?_ ?_ _) | (with_reducible refine via (by with_reducible assumption) ?_ ?_) | go_size))
      have x0 : W.cell? ⟨wk.heap.size, 0, none⟩ = some (.string d.name) := by rw [hW.out]; simp [go_sem]
      have x1 : W.cell? ⟨wk.heap.size, 1, none⟩ = some (.int .i64 d.parent) := by rw [hW.out]; simp [go_sem]
      have x2 : W.cell? ⟨wk.heap.size, 2, none⟩ = some (.int .i64 d.each) := by rw [hW.out]; simp [go_sem]
      have x3 : W.cell? ⟨wk.heap.size, 3, none⟩ = some (.int .i64 d.price) := by rw [hW.out]; simp [go_sem]
      have xl : wk.heap.size < W.heap.size := by rw [hW.out]; simp [go_sem]
      have hMW := HM.out.keep hbW
      have HMW := Lib.hid hMW
      have hlook := hMW.look k1
      clear hW g0 g1 g2 g3 hMW
      obtain ⟨bad, hbad⟩ : ∃ bad : Bool, bad = !(pieceB d && newB l k) := ⟨_, rfl⟩
      have HBAD := Lib.hid (show bad = !((nameB d.name && inB d.each 1 100 && inB d.price 0 1000000) && !seenB (nmP l) k d.name) by rw [hbad, newB_eq, HG.out]; rfl)
      have HBAD0 := Lib.hid hbad; clear hbad
      go_cut [40] (fun v wx => v = .bool bad ∧ W = wx)
      case first =>
        cases h1 : nameB d.name <;> cases h2 : seenB (nmP l) k d.name <;> cases h3 : inB d.each 1 100 <;> cases h4 : inB d.price 0 1000000
        all_goals
          go_wp2_with (first | (go_at_call 96; refine (IsName_c d.name _ k1).mono ?_; rintro e w' ⟨rfl, rfl⟩) | (go_at_call 95; refine (between_c _ _ _ _).mono ?_; rintro e w' ⟨rfl, rfl⟩))
          (go_wp2_with fail; refine Met.intro ?_; apply_assumption; (repeat apply Exists.intro); refine ⟨?_, rfl⟩)
          exact ⟨by rw [HBAD.out, h1, h2, h3, h4]; rfl, rfl⟩
      case rest =>
        obtain ⟨rfl, rfl⟩ := hcut
        clear hlook
        cases bad
        · have hok : pieceB d = true ∧ newB l k = true := by
            have h7 := HBAD0.out
            cases h8 : pieceB d <;> cases h9 : newB l k <;> rw [h8, h9] at h7 <;> first | exact ⟨rfl, rfl⟩ | cases h7
          obtain ⟨hok1, hok2⟩ := hok
          have HOK1 := Lib.hid hok1; clear hok1
          have HOK2 := Lib.hid hok2; clear hok2
          have hnm : (nmP l k).size ≤ maxLen := by unfold nmP; rw [HG.out]; exact k1
          have HNM := Lib.hid (show Value.string d.name = Value.string (nmP l k) by unfold nmP; rw [HG.out])
          go_upto_region 10 with (at_mapUpdate; refine wpList_put _ rfl _ _ _ rfl w.heap.size k (nmP l) HMW.out (by omega) hnm rfl HNM.out rfl ?_; intro w1 hN1 hg1)
          have hbw1 : Below w.heap.size w w1 := Below.grown (hb.trans (hbW.mono hbs)) hg1 (by omega) (fun q hq => by injection hq with hq; omega)
          have HN1 := Lib.hid hN1; clear hN1
          have hne : wk.heap.size ≠ w.heap.size := by omega
          rw [← hg1.cell_far ⟨wk.heap.size, 0, none⟩ xl (by simp; omega)] at x0
          rw [← hg1.cell_far ⟨wk.heap.size, 1, none⟩ xl (by simp; omega)] at x1
          rw [← hg1.cell_far ⟨wk.heap.size, 2, none⟩ xl (by simp; omega)] at x2
          rw [← hg1.cell_far ⟨wk.heap.size, 3, none⟩ xl (by simp; omega)] at x3
          have hw1s := hg1.size
          clear hg1
          by_cases h0 : k = 0
          · cases h5 : (d.parent == -1)
            · have HO := Lib.hid (validI_no (l := l) (k := k) (by rw [HN.out]; exact hlt) (by unfold okI parB; rw [HG.out, h0, h5]; simp))
              have h5' : (d.parent != -1) = true := by unfold bne; rw [h5]; rfl
              have q0 : ((k : Int) == 0) = true := by simpa using h0
              have q1 : decide (0 < k) = false := by simp [h0]
              have H0 := Lib.hid h0; clear h0
              go_wp2_with (go_at_call 95; refine (between_c _ _ _ _).mono ?_; rintro e w' ⟨rfl, rfl⟩)
              go_ret
              exact ⟨ret_bool HO.out.symm, by (repeat' (first | (with_reducible exact Below.refl _ _) | (with_reducible assumption) | (with_reducible refine below_drewN ?_ _) | (with_reducible refine Below.drew ?_) | (with_reducible refine Below.alloc ?_ ?_ _) | (with_reducible refine Below.setCell ?_ ?_ _) | (with_reducible refine via (by with_reducible assumption) ?_ ?_) | go_size))⟩
            · have HS := Lib.hid (all_range_succ (okI l) k HA.out (by unfold okI parB; rw [HG.out, HOK1.out, HOK2.out, h0, h5]; rfl))
              have h5' : (d.parent != -1) = false := by unfold bne; rw [h5]; rfl
              have q0 : ((k : Int) == 0) = true := by simpa using h0
              have q1 : decide (0 < k) = false := by simp [h0]
              have H0 := Lib.hid h0; clear h0
              go_wp2_with (go_at_call 95; refine (between_c _ _ _ _).mono ?_; rintro e w' ⟨rfl, rfl⟩)
              (first | (refine ⟨?_, ?_⟩; rotate_left; (first | (simp [intOf]; done) | (simp [intOf]; omega)); (repeat apply Exists.intro); refine ⟨?_, rfl⟩; exact ⟨k + 1, by omega, by go_num, HS.out, by (repeat' (first | (with_reducible exact Below.refl _ _) | (with_reducible assumption) | (with_reducible refine below_drewN ?_ _) | (with_reducible refine Below.drew ?_) | (with_reducible refine Below.alloc ?_ ?_ _) | (with_reducible refine Below.setCell ?_ ?_ _) | (with_reducible refine via (by with_reducible assumption) ?_ ?_) | go_size)), HN1.out⟩) | exact ⟨⟨k + 1, by omega, by go_num, HS.out, by (repeat' (first | (with_reducible exact Below.refl _ _) | (with_reducible assumption) | (with_reducible refine below_drewN ?_ _) | (with_reducible refine Below.drew ?_) | (with_reducible refine Below.alloc ?_ ?_ _) | (with_reducible refine Below.setCell ?_ ?_ _) | (with_reducible refine via (by with_reducible assumption) ?_ ?_) | go_size)), HN1.out⟩, by first | (simp [intOf]; done) | (simp [intOf]; omega)⟩)
          · have q0 : ((k : Int) == 0) = false := by simpa using h0
            have q1 : decide (0 < k) = true := by simp; omega
            have q2 : 0 < k := by omega
            cases h6 : inB d.parent 0 ((k : Int) - 1)
            · have HO := Lib.hid (validI_no (l := l) (k := k) (by rw [HN.out]; exact hlt) (by unfold okI parB; rw [HG.out, if_neg h0, h6]; simp))
              go_wp2_with (go_at_call 95; refine (between_c _ _ _ _).mono ?_; rintro e w' ⟨rfl, rfl⟩)
              go_ret
              exact ⟨ret_bool HO.out.symm, by (repeat' (first | (with_reducible exact Below.refl _ _) | (with_reducible assumption) | (with_reducible refine below_drewN ?_ _) | (with_reducible refine Below.drew ?_) | (with_reducible refine Below.alloc ?_ ?_ _) | (with_reducible refine Below.setCell ?_ ?_ _) | (with_reducible refine via (by with_reducible assumption) ?_ ?_) | go_size))⟩
            · have HS := Lib.hid (all_range_succ (okI l) k HA.out (by unfold okI parB; rw [HG.out, HOK1.out, HOK2.out, if_neg h0, h6]; rfl))
              go_wp2_with (go_at_call 95; refine (between_c _ _ _ _).mono ?_; rintro e w' ⟨rfl, rfl⟩)
              (first | (refine ⟨?_, ?_⟩; rotate_left; (first | (simp [intOf]; done) | (simp [intOf]; omega)); (repeat apply Exists.intro); refine ⟨?_, rfl⟩; exact ⟨k + 1, by omega, by go_num, HS.out, by (repeat' (first | (with_reducible exact Below.refl _ _) | (with_reducible assumption) | (with_reducible refine below_drewN ?_ _) | (with_reducible refine Below.drew ?_) | (with_reducible refine Below.alloc ?_ ?_ _) | (with_reducible refine Below.setCell ?_ ?_ _) | (with_reducible refine via (by with_reducible assumption) ?_ ?_) | go_size)), HN1.out⟩) | exact ⟨⟨k + 1, by omega, by go_num, HS.out, by (repeat' (first | (with_reducible exact Below.refl _ _) | (with_reducible assumption) | (with_reducible refine below_drewN ?_ _) | (with_reducible refine Below.drew ?_) | (with_reducible refine Below.alloc ?_ ?_ _) | (with_reducible refine Below.setCell ?_ ?_ _) | (with_reducible refine via (by with_reducible assumption) ?_ ?_) | go_size)), HN1.out⟩, by first | (simp [intOf]; done) | (simp [intOf]; omega)⟩)
        · have HO := Lib.hid (validI_no (l := l) (k := k) (by rw [HN.out]; exact hlt) (by
            have h7 := HBAD0.out
            unfold okI
            rw [HG.out]
            cases h8 : pieceB d <;> cases h9 : newB l k <;> rw [h8, h9] at h7 <;> first | rfl | cases h7))
          go_wp2_with fail
          go_ret
          exact ⟨ret_bool HO.out.symm, by (repeat' (first | (with_reducible exact Below.refl _ _) | (with_reducible assumption) | (with_reducible refine below_drewN ?_ _) | (with_reducible refine Below.drew ?_) | (with_reducible refine Below.alloc ?_ ?_ _) | (with_reducible refine Below.setCell ?_ ?_ _) | (with_reducible refine via (by with_reducible assumption) ?_ ?_) | go_size))⟩
    · have hkn : k = n := by omega
      subst hkn
      have HSt := Lib.hid (St_of_okI HA.out)
      go_wp2_with fail
      go_loop [66] (fun i => ∃ j : Nat, j ≤ k ∧ i = .int .i64 j ∧ (List.range j).all (smT l) = true) (fun i => k - (intOf i).toNat)
      case atStart => exact ⟨0, Nat.zero_le _, rfl, by simp⟩
      case round =>
        obtain ⟨j, hj, rfl, hja⟩ := hrel
        have HJ := Lib.hid hja; clear hja
        by_cases hjt : j < k
        · have p3 : (j : Int) < (k : Int) := by omega
          have hrw : Rd wk w.heap.size 4 pcell A l := hr.below hb
          go_wp2_with fail
          refine (total_c A k c l k (j : Int) _ wk HN.out hm hrw HSt.out (Nat.le_refl _) (by omega) (by omega)).mono ?_
          rintro e w' ⟨r, rfl, hP, r1, r2, rfl⟩
          have hPi := PT_iff hP
          have HP := Lib.hid hP; clear hP
          cases h1 : decide (1000000 < r)
          · have HS := Lib.hid (all_range_succ (smT l) j HJ.out (by unfold smT; simp at h1 ⊢; omega))
            clear hPi
            go_wp2_with fail
            (first | (refine ⟨⟨(by first | trivial | rfl), ?_⟩, ?_⟩; rotate_left; (first | (simp [intOf]; done) | (simp [intOf]; omega)); (repeat apply Exists.intro); refine ⟨?_, rfl⟩; exact ⟨j + 1, by omega, by go_num, HS.out⟩) | exact ⟨⟨j + 1, by omega, by go_num, HS.out⟩, by first | (simp [intOf]; done) | (simp [intOf]; omega)⟩)
          · have HO := Lib.hid (validI_big (l := l) (k := j) (by rw [HN.out]; exact hjt) (by unfold smT; simp at h1 ⊢; omega))
            clear hPi
            go_wp2_with fail
            go_ret
            exact ⟨ret_bool HO.out.symm, hb⟩
        · have hjk : j = k := by omega
          have HO := Lib.hid (show validI l = true by unfold validI; rw [HN.out, HIN.out, HA.out, ← hjk, HJ.out]; rfl)
          clear hjk
          go_wp2_with fail
          go_ret
          exact ⟨ret_bool HO.out.symm, hb⟩

end Go.Proofs.YtaebofpgdonnbaaDoor
