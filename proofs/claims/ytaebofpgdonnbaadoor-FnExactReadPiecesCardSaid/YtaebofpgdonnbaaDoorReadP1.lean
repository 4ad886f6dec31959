/- Contracts: the pieces read by the program. -/
import Derived.Test.YtaebofpgdonnbaaDoorTextLines
import Derived.Test.YtaebofpgdonnbaaDoorRows3
import Derived.Deep.DeepCutAuto
set_option linter.unusedVariables false
set_option linter.unusedSimpArgs false
namespace Go.Proofs.YtaebofpgdonnbaaDoor
open Go.RowKit

theorem wf64_of {n : Int} (h : -9223372036854775808 ≤ n ∧ n ≤ 9223372036854775807) : wf64 n := by
  simp [wf64, Lit.wf, IntKind.min, IntKind.max, IntKind.signed, IntKind.bits]
  omega
theorem namedM_bd (l : List PieceD) (s : ByteArray) : -1 ≤ namedM l s ∧ namedM l s < (l.length : Int) := by
  unfold namedM
  cases h : namedO l s with
  | none => exact ⟨Int.le_refl _, by show (-1 : Int) < _; omega⟩
  | some i =>
    have := List.mem_range.1 (List.mem_of_find?_eq_some h)
    show -1 ≤ (i : Int) ∧ (i : Int) < _
    omega
theorem list4p {L : List ByteArray} (h : L.length = 4) : ∃ a b c d, L = [a, b, c, d] := by
  match L, h with
  | [a, b, c, d], _ => exact ⟨a, b, c, d, rfl⟩
theorem parseI_at {ln : ByteArray} {r : List ByteArray} {out : List PieceD} {w0 w1 w2 w3 : ByteArray} (h : splL ln 32 = [w0, w1, w2, w3]) : parseI (ln :: r) out = if ((rdec w2).2 && (rdec w3).2) = true then parseI r (out ++ [⟨w0, namedM out w1, (rdec w2).1, (rdec w3).1⟩]) else none := by
  conv => lhs; unfold parseI
  rw [h]
theorem parseI_no {ln : ByteArray} {r : List ByteArray} {out : List PieceD} (h : ¬ (splL ln 32).length = 4) : parseI (ln :: r) out = none := by
  unfold parseI
  split
  · rename_i hw
    rw [hw] at h
    exact absurd rfl h
  · rfl
theorem readPI_no {s : ByteArray} (h : tlOk (splL s 10) = false) : readPI s = ([], false) := by unfold readPI; rw [h]; rfl
theorem readPI_none {s : ByteArray} (h : parseI (splL s 10).dropLast [] = none) : readPI s = ([], false) := by
  unfold readPI
  split
  · rw [h]
  · rfl
theorem readPI_some {s : ByteArray} {l : List PieceD} (h0 : tlOk (splL s 10) = true) (h : parseI (splL s 10).dropLast [] = some l) : readPI s = if ¬ s.size = 0 ∧ ((ptextR l).toList == s.toList) = true then (l, true) else ([], false) := by
  unfold readPI
  rw [if_pos h0, h]
/-- two cells of a block -/
def C2 (w : World) (g : Nat) (x0 x1 : ByteArray) : Prop := w.cell? ⟨g, 0, none⟩ = some (.string x0) ∧ w.cell? ⟨g, 1, none⟩ = some (.string x1)
theorem c2_drew {w : World} {g : Nat} {x0 x1 : ByteArray} (h : C2 w g x0 x1) : C2 w.drew g x0 x1 := h
theorem c2_alloc {w : World} {g : Nat} {x0 x1 : ByteArray} {o : Obj} (h : C2 w g x0 x1) (hg : g < w.heap.size) : C2 (w.alloc o) g x0 x1 := ⟨(World.cell?_alloc_lt w o _ hg).trans h.1, (World.cell?_alloc_lt w o _ hg).trans h.2⟩
theorem c2_below {w w' : World} {B g : Nat} {x0 x1 : ByteArray} (h : C2 w g x0 x1) (hb : Below B w w') (hg : g < B) : C2 w' g x0 x1 := ⟨(hb.cell (p := ⟨g, 0, none⟩) hg).trans h.1, (hb.cell (p := ⟨g, 1, none⟩) hg).trans h.2⟩
theorem c2_grown {w w' : World} {row : Option Nat} {g : Nat} {x0 x1 : ByteArray} (h : C2 w g x0 x1) (hg : w.grownBy w' row) (hlt : g < w.heap.size) (hne : some g ≠ row) : C2 w' g x0 x1 :=
  ⟨(World.cell?_of_block (w := w) (hg.block g hlt hne)).trans h.1, (World.cell?_of_block (w := w) (hg.block g hlt hne)).trans h.2⟩
theorem keepC {w W : World} {B g : Nat} {x0 x1 : ByteArray} (h : C2 w g x0 x1) (hb : Below B W w) : w.cell? ⟨g, 0, none⟩ = some (.string x0) ∧ w.cell? ⟨g, 1, none⟩ = some (.string x1) ∧ Below B W w := ⟨h.1, h.2, hb⟩

set_option maxRecDepth 100000 in
set_option maxHeartbeats 8000000 in
theorem ReadPiecesI0_c (s : ByteArray) (w : World) (hs : s.size ≤ 1048576) (ht : Tab w) :
    Calls Tryd.prog 32 #[.string s] w fun e w' => ∃ v, e = .returned (.tuple #[v, .bool (readPI s).2]) ∧ w'.ownsRow w.heap.size 79 4 v (readPI s).1.length ((readPI s).1.flatMap pcell) ∧ Below w.heap.size w w' := by
  obtain ⟨i0, hi0, hy0, hy1, hy2⟩ := info_parts info_piece
  have HT := Lib.hid ht; clear ht
  have HTL := Lib.hid (textLines_c s w hs)
  have HSZ := Lib.hid (splL_size s 10)
  have hLL := splL_len s 10
  go_enter Tryd.func32, Tryd.ntmps32
  go_wp2_with fail
  refine HTL.out.mono ?_
  rintro e w1 ⟨v, rfl, hown, hb1⟩
  cases htl : tlOk (splL s 10)
  · have HF := Lib.hid (readPI_no htl)
    go_wp2_with fail
    refine bodyPost_ret (v := .tuple #[.slice none 0 0, .bool false]) (by simp only [results, Tryd.results32]; go_simp) rfl ⟨_, by rw [HF.out], by rw [HF.out]; exact World.ownsRow_nil _ _ _ _, hb1⟩
  have ho := hown htl
  obtain ⟨LL, hLLe⟩ : ∃ LL, LL = (splL s 10).dropLast := ⟨_, rfl⟩
  have HNO := Lib.hid (fun (h : parseI LL [] = none) => readPI_none (s := s) (by rw [← hLLe]; exact h))
  have HSO := Lib.hid (fun l (h : parseI LL [] = some l) => readPI_some (s := s) htl (by rw [← hLLe]; exact h))
  have HLS := Lib.hid (show ∀ x ∈ LL, x.size ≤ 1048576 from fun x hx => by
    have := HSZ.out x (by rw [hLLe] at hx; exact List.dropLast_subset _ hx)
    omega)
  have hLn : LL.length ≤ 1048576 := by rw [hLLe, List.length_dropLast]; omega
  rw [← hLLe] at ho
  clear hLLe hown HSZ hLL HTL htl
  obtain ⟨n, hn⟩ : ∃ n, n = LL.length := ⟨_, rfl⟩
  rw [← hn] at ho hLn
  have HN := Lib.hid hn.symm; clear hn
  obtain ⟨A, c, rfl, hAb⟩ := own_form ho
  have HOL := Lib.hid ho; clear ho
  have hown0 : (w1.alloc (.cells #[] 79)).ownsRow w1.heap.size 79 4 (.slice (some ⟨w1.heap.size, 0, none⟩) 0 0) 0 (([] : List PieceD).flatMap pcell) := World.ownsRow_made w1 #[] 0 (Nat.le_refl _) (by simp [maxLen]) (by simp)
  go_wp2_with fail
  go_loopw [6, 24] (fun o i wr => ∃ (k : Nat) (out : List PieceD), k ≤ n ∧ i = .int .i64 k ∧ out.length = k ∧ parseI (LL.drop k) out = parseI LL [] ∧ (∀ d ∈ out, okP d) ∧ Below w1.heap.size w1 wr ∧ wr.ownsRow w1.heap.size 79 4 o k (out.flatMap pcell)) (fun _ i _ => n - (intOf i).toNat)
  case atStart => exact ⟨0, [], Nat.zero_le _, rfl, rfl, rfl, fun d hd => (by cases hd), by (repeat' (first | (with_reducible exact Below.refl _ _) | (with_reducible assumption) | (with_reducible refine below_drewN ?_ _) | (with_reducible refine Below.drew ?_) | (with_reducible refine Below.alloc ?_ ?_ _) | (with_reducible refine Below.setCell ?_ ?_ _) | (with_reducible refine via (by with_reducible assumption) ?_ ?_) | go_size)), hown0⟩
  case round =>
    clear hown0
    obtain ⟨k, out, hk, rfl, hol, hpa, hok, hb, hx⟩ := hrel
    obtain ⟨oA, oc, rfl, _⟩ := own_form hx
    have HX := Lib.hid hx; clear hx
    have HPA := Lib.hid hpa; have HOK := Lib.hid hok; have HOLN := Lib.hid hol
    clear hpa hok hol
    have hbs := hb.size
    have hbw : Below w.heap.size w wr := hb1.trans (hb.mono hb1.size)
    by_cases hlt : k < n
    · obtain ⟨b, off, rfl, hbl, hc⟩ := (rd_ownS (own_call HOL.out hb)).strs (by rw [HN.out]; omega)
      obtain ⟨ln, hln⟩ := get_ex LL k (by rw [HN.out]; omega)
      have e1 := hc k ln hln
      have hls := HLS.out ln (List.mem_of_getElem? hln)
      have HD := Lib.hid (show LL.drop k = ln :: LL.drop (k + 1) by
        rw [List.drop_eq_getElem_cons (by rw [HN.out]; exact hlt)]
        congr 1
        have := List.getElem?_eq_some_iff.1 hln
        obtain ⟨_, h2⟩ := this
        exact h2)
      have p1 : (0 : Int) ≤ (k : Int) := by omega
      have p2 : (k : Int) < (n : Int) := by omega
      have hf := far hbl
      have HPR := Lib.hid (parts_c ln wr hls)
      have HWS := Lib.hid (splL_size ln 32)
      clear hc hln
      go_wp2_with fail
      refine HPR.out.mono ?_
      rintro e w3 ⟨v3, rfl, hown3, hb3⟩
      have HX3 := Lib.hid (own_call HX.out hb3)
      have hbw3 : Below w.heap.size w w3 := hbw.trans (hb3.mono hbw.size)
      have hbb3 : Below w1.heap.size w1 w3 := hb.trans (hb3.mono hbs)
      by_cases hL : (splL ln 32).length = 4
      rotate_left
      · have HF := Lib.hid (HNO.out (by rw [← HPA.out, HD.out]; exact parseI_no hL))
        obtain ⟨A9, c9, rfl, _⟩ := own_form hown3
        have q1 : (((splL ln 32).length : Int) == 4) = false := by rw [beq_eq_false_iff_ne]; omega
        have q2 : (((splL ln 32).length : Int) != 4) = true := by rw [bne_iff_ne]; omega
        have q3 : ((splL ln 32).length == 4) = false := by rw [beq_eq_false_iff_ne]; exact hL
        have q4 : ((splL ln 32).length != 4) = true := by rw [bne_iff_ne]; exact hL
        generalize (splL ln 32).length = kk at *
        go_wp2_with fail
        refine bodyPost_ret (v := .tuple #[.slice none 0 0, .bool false]) (by simp only [results, Tryd.results32]; go_simp) rfl ⟨_, by rw [HF.out], by rw [HF.out]; exact World.ownsRow_nil _ _ _ _, hbw3⟩
      obtain ⟨g, cap, rfl, hgB, hgl, hcell⟩ := words_in hown3 hL
      obtain ⟨x0, x1, x2, x3, hX⟩ := list4p hL
      rw [hX] at hcell hown3
      have f0 := hcell 0 x0 rfl
      have f1 := hcell 1 x1 rfl
      have f2 := hcell 2 x2 rfl
      have f3 := hcell 3 x3 rfl
      have s0 := HWS.out x0 (by rw [hX]; simp)
      have s1 := HWS.out x1 (by rw [hX]; simp)
      have s2 := HWS.out x2 (by rw [hX]; simp)
      have s3 := HWS.out x3 (by rw [hX]; simp)
      rcases ha : rdec x2 with ⟨a, oa⟩
      rcases hbq : rdec x3 with ⟨b2, ob⟩
      have hba := rdec_bd x2
      have hbb := rdec_bd x3
      rw [ha] at hba
      rw [hbq] at hbb
      have HPS := Lib.hid (show parseI LL [] = if (oa && ob) = true then parseI (LL.drop (k + 1)) (out ++ [⟨x0, namedM out x1, a, b2⟩]) else none by
        rw [← HPA.out, HD.out, parseI_at hX, ha, hbq])
      have HA := Lib.hid (fun w' ht => ha ▸ ReadDecimal_c x2 w' (by unfold maxLen; omega) ht)
      have HB := Lib.hid (fun w' ht => hbq ▸ ReadDecimal_c x3 w' (by unfold maxLen; omega) ht)
      clear ha hbq hcell hown3 hL HWS HPR
      go_wp2_with fail
      refine (HA.out _ (HT.out.below hbw3)).mono ?_
      rintro e w4 ⟨rfl, hb4⟩
      obtain ⟨hc, _⟩ := bcell hb4
      rw [← hc _ _ hgl] at f0 f1 f2 f3
      have hg4 : g < w4.heap.size := Nat.lt_of_lt_of_le hgl hb4.size
      have HX4 := Lib.hid (own_call HX3.out hb4)
      have hbw4 : Below w.heap.size w w4 := hbw3.trans (hb4.mono hbw3.size)
      have hbb4 : Below w1.heap.size w1 w4 := hbb3.trans (hb4.mono hbb3.size)
      clear hc HX3
      go_wp2_with fail
      refine (HB.out _ (HT.out.below hbw4)).mono ?_
      rintro e w5 ⟨rfl, hb5⟩
      obtain ⟨hc, _⟩ := bcell hb5
      rw [← hc _ _ hg4] at f0 f1 f2 f3
      have hg5 : g < w5.heap.size := Nat.lt_of_lt_of_le hg4 hb5.size
      have HX5 := Lib.hid (own_call HX4.out hb5)
      have hbw5 : Below w.heap.size w w5 := hbw4.trans (hb5.mono hbw4.size)
      have hbb5 : Below w1.heap.size w1 w5 := hbb4.trans (hb5.mono hbb4.size)
      have hbz5 : wr.heap.size ≤ w5.heap.size := Nat.le_trans hb3.size (Nat.le_trans hb4.size hb5.size)
      clear hc HX4 hb3 hb4 hb5 hbw3 hbw4 hbb3 hbb4 hg4 hgl
      have hfg := far hg5
      have hs1 := hbw5.size
      have hs2 := hbb5.size
      cases oa
      · have HF := Lib.hid (HNO.out (by rw [HPS.out]; simp))
        go_wp2_with fail
        refine bodyPost_ret (v := .tuple #[.slice none 0 0, .bool false]) (by simp only [results, Tryd.results32]; go_simp) rfl ⟨_, by rw [HF.out], by rw [HF.out]; exact World.ownsRow_nil _ _ _ _, hbw5⟩
      cases ob
      · have HF := Lib.hid (HNO.out (by rw [HPS.out]; simp))
        go_wp2_with fail
        refine bodyPost_ret (v := .tuple #[.slice none 0 0, .bool false]) (by simp only [results, Tryd.results32]; go_simp) rfl ⟨_, by rw [HF.out], by rw [HF.out]; exact World.ownsRow_nil _ _ _ _, hbw5⟩
      have HC5 : C2 w5 g x0 x1 := ⟨f0, f1⟩
      have hgX : ∀ q, (Value.slice oA k oc).ownBlock = some q → ¬ q = g := fun q hq => by
        have := (HX.out.lt q hq).2
        omega
      have HPN := Lib.hid (fun w' (h : Below w5.heap.size w5 w') => pieceNamed_c oA k oc out x1 w' HOLN.out (by omega) (Rd.of_own pcell_len (by decide) (n := k) (c := oc) (own_call HX5.out h)))
      have hnb := namedM_bd out x1
      rw [HOLN.out] at hnb
      have HFM := Lib.hid (show (out ++ [(⟨x0, namedM out x1, a, b2⟩ : PieceD)]).flatMap pcell = out.flatMap pcell ++ pcell ⟨x0, namedM out x1, a, b2⟩ by simp)
      have HOK2 := Lib.hid (show ∀ d ∈ out ++ [(⟨x0, namedM out x1, a, b2⟩ : PieceD)], okP d from fun d hd => by
        rw [List.mem_append] at hd
        rcases hd with hd | hd
        · exact HOK.out d hd
        · simp at hd
          subst hd
          exact ⟨by show x0.size ≤ maxLen; unfold maxLen; omega, wf64_of (by show _ ≤ namedM out x1 ∧ namedM out x1 ≤ _; omega), wf64_of (by show _ ≤ a ∧ a ≤ _; omega), wf64_of (by show _ ≤ b2 ∧ b2 ≤ _; omega)⟩)
      have HPA2 := Lib.hid (show parseI (LL.drop (k + 1)) (out ++ [⟨x0, namedM out x1, a, b2⟩]) = parseI LL [] by rw [HPS.out]; simp)
      have HL2 := Lib.hid (show (out ++ [(⟨x0, namedM out x1, a, b2⟩ : PieceD)]).length = k + 1 by rw [List.length_append, HOLN.out]; rfl)
      generalize namedM out x1 = pn at *
      clear f2 f3 HPS hf e1
      go_wp2_with fail
      go_region_held3 (fun w' => w'.cell? ⟨g, 0, none⟩ = some (.string x0) ∧ w'.cell? ⟨g, 1, none⟩ = some (.string x1) ∧ Below w1.heap.size w1 w') (exact keepC (by repeat (first | (with_reducible assumption) | (with_reducible refine c2_drew ?_) | (with_reducible refine c2_alloc ?_ ?_) | go_size)) (by (repeat' (first | (with_reducible exact Below.refl _ _) | (with_reducible assumption) | (with_reducible refine below_drewN ?_ _) | (with_reducible refine Below.drew ?_) | (with_reducible refine Below.alloc ?_ ?_ _) | (with_reducible refine Below.setCell ?_ ?_ _) | (with_reducible refine via (by with_reducible assumption) ?_ ?_) | go_size))))
        (first
          | (go_at_call 70; refine (HPN.out _ (by (repeat' (first | (with_reducible exact Below.refl _ _) | (with_reducible assumption) | (with_reducible refine below_drewN ?_ _) | (with_reducible refine Below.drew ?_) | (with_reducible refine Below.alloc ?_ ?_ _) | (with_reducible refine Below.setCell ?_ ?_ _) | (with_reducible refine via (by with_reducible assumption) ?_ ?_) | go_size)))).mono ?_; rintro e w6 ⟨rfl, hb6⟩; have HC6 : C2 w6 g x0 x1 := c2_below (by repeat (first | (with_reducible assumption) | (with_reducible refine c2_drew ?_) | (with_reducible refine c2_alloc ?_ ?_) | go_size)) hb6 (by go_size); have hT6 : Below w5.heap.size w5 w6 := (by (repeat' (first | (with_reducible exact Below.refl _ _) | (with_reducible assumption) | (with_reducible refine below_drewN ?_ _) | (with_reducible refine Below.drew ?_) | (with_reducible refine Below.alloc ?_ ?_ _) | (with_reducible refine Below.setCell ?_ ?_ _) | (with_reducible refine via (by with_reducible assumption) ?_ ?_) | go_size))); have hS6 : Below w1.heap.size w1 w6 := (by (repeat' (first | (with_reducible exact Below.refl _ _) | (with_reducible assumption) | (with_reducible refine below_drewN ?_ _) | (with_reducible refine Below.drew ?_) | (with_reducible refine Below.alloc ?_ ?_ _) | (with_reducible refine Below.setCell ?_ ?_ _) | (with_reducible refine via (by with_reducible assumption) ?_ ?_) | go_size))); have hz6 := hT6.size)
          | ((refine app_step (W := w1) (news := pcell ⟨x0, pn, a, b2⟩) (z := .agg #[.string ByteArray.empty, .int .i64 0, .int .i64 0, .int .i64 0]) (.tmp 53) (.tmp 65) (by rfl) (by rfl) Tryd.underlying45 hi0 hy0 hy1 hy2 rfl (by decide) (by decide) (by rfl) (own_call HX5.out (by (repeat' (first | (with_reducible exact Below.refl _ _) | (with_reducible assumption) | (with_reducible refine below_drewN ?_ _) | (with_reducible refine Below.drew ?_) | (with_reducible refine Below.alloc ?_ ?_ _) | (with_reducible refine Below.setCell ?_ ?_ _) | (with_reducible refine via (by with_reducible assumption) ?_ ?_) | go_size)))) (by rfl) (by rfl) (news4 (by simp [go_sem]) (by simp [go_sem]) (by simp [go_sem]) (by simp [go_sem])) (pcell_one _) (by omega) (by (repeat' (first | (with_reducible exact Below.refl _ _) | (with_reducible assumption) | (with_reducible refine below_drewN ?_ _) | (with_reducible refine Below.drew ?_) | (with_reducible refine Below.alloc ?_ ?_ _) | (with_reducible refine Below.setCell ?_ ?_ _) | (with_reducible refine via (by with_reducible assumption) ?_ ?_) | go_size))) (Nat.le_refl _) ?_; intro v7 w7 hown7 hg7 _ hb7; have HC7 : C2 w7 g x0 x1 := c2_grown (by repeat (first | (with_reducible assumption) | (with_reducible refine c2_drew ?_) | (with_reducible refine c2_alloc ?_ ?_) | go_size)) hg7 (by go_size) (fun h => hgX g h.symm rfl))))
      have HO7 := Lib.hid hown7; clear hown7 hg7
      go_wp2_with fail
      (first | (refine ⟨?_, ?_⟩; rotate_left; (first | (simp [intOf]; done) | (simp [intOf]; omega)); (repeat apply Exists.intro); refine ⟨?_, rfl⟩; exact ⟨k + 1, out ++ [⟨x0, pn, a, b2⟩], by omega, by go_num, HL2.out, HPA2.out, HOK2.out, hb7, by rw [HFM.out]; exact HO7.out⟩) | exact ⟨⟨k + 1, out ++ [⟨x0, pn, a, b2⟩], by omega, by go_num, HL2.out, HPA2.out, HOK2.out, hb7, by rw [HFM.out]; exact HO7.out⟩, by first | (simp [intOf]; done) | (simp [intOf]; omega)⟩)
    · obtain rfl : k = n := by omega
      have hpa := HPA.out
      rw [List.drop_eq_nil_of_le (by rw [HN.out]; exact Nat.le_refl _)] at hpa
      have hso := HSO.out out (by rw [← hpa]; rfl)
      by_cases hz : s.size = 0
      · have HF := Lib.hid (show readPI s = ([], false) by rw [hso, if_neg (fun h => h.1 hz)])
        have h1 : s.toList.isEmpty = true := by rw [size_toList]; exact decide_eq_true hz
        clear hso
        go_wp2_with fail
        refine bodyPost_ret (v := .tuple #[.slice none 0 0, .bool false]) (by simp only [results, Tryd.results32]; go_simp) rfl ⟨_, by rw [HF.out], by rw [HF.out]; exact World.ownsRow_nil _ _ _ _, hbw⟩
      have h1 : s.toList.isEmpty = false := by rw [size_toList]; exact decide_eq_false hz
      have HPT := Lib.hid (PiecesTextI_c oA k oc out wr HOLN.out (by omega) (Rd.of_own pcell_len (by decide) (n := k) (c := oc) HX.out) HOK.out (HT.out.below hbw))
      cases hq : ((ptextR out).toList == s.toList)
      · have HF := Lib.hid (show readPI s = ([], false) by rw [hso, hq, if_neg (fun h => by cases h.2)])
        generalize ptextR out = PT at *
        have q2 : (PT.toList != s.toList) = true := by unfold bne; rw [hq]; rfl
        clear hso
        go_wp2_with fail
        refine HPT.out.mono ?_
        rintro e w3 ⟨rfl, hb3⟩
        have hbw3 := hbw.trans (hb3.mono hbw.size)
        go_wp2_with fail
        refine bodyPost_ret (v := .tuple #[.slice none 0 0, .bool false]) (by simp only [results, Tryd.results32]; go_simp) rfl ⟨_, by rw [HF.out], by rw [HF.out]; exact World.ownsRow_nil _ _ _ _, hbw3⟩
      · have HF := Lib.hid (show readPI s = (out, true) by rw [hso, hq, if_pos ⟨hz, rfl⟩])
        generalize ptextR out = PT at *
        have q2 : (PT.toList != s.toList) = false := by unfold bne; rw [hq]; rfl
        have q5 : PT.toList = s.toList := eq_of_beq hq
        clear hso
        go_wp2_with fail
        refine HPT.out.mono ?_
        rintro e w3 ⟨rfl, hb3⟩
        have hbw3 := hbw.trans (hb3.mono hbw.size)
        have HX3 := Lib.hid (own_call HX.out hb3)
        go_wp2_with fail
        refine bodyPost_ret (v := .tuple #[.slice oA k oc, .bool true]) (by simp only [results, Tryd.results32]; go_simp) rfl ⟨_, by rw [HF.out], by rw [HF.out]; simp only [HOLN.out]; exact Go.Joins.ownsRow_le HX3.out hb1.size, hbw3⟩

end Go.Proofs.YtaebofpgdonnbaaDoor
