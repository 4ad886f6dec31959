/- Contracts: the pieces read by the reference. -/
import Derived.Test.YtaebofpgdonnbaaDoorReadP1
set_option linter.unusedVariables false
set_option linter.unusedSimpArgs false
namespace Go.Proofs.YtaebofpgdonnbaaDoor
open Go.RowKit

theorem parseS_at {ln : ByteArray} {r : List ByteArray} {out : List PieceD} {w0 w1 w2 w3 : ByteArray} (h : splL ln 32 = [w0, w1, w2, w3]) : parseS (ln :: r) out = if ((rdec w2).2 && (rdec w3).2 && okS1 out w1) = true then parseS r (out ++ [⟨w0, lastP out w1 out.length, (rdec w2).1, (rdec w3).1⟩]) else none := by
  conv => lhs; unfold parseS
  rw [h]
theorem parseS_no {ln : ByteArray} {r : List ByteArray} {out : List PieceD} (h : ¬ (splL ln 32).length = 4) : parseS (ln :: r) out = none := by
  unfold parseS
  split
  · rename_i hw
    rw [hw] at h
    exact absurd rfl h
  · rfl
theorem readPS_no {s : ByteArray} (h : ¬ (tlOk (splL s 10) = true ∧ (splL s 10).length ≤ 41)) : readPS s = ([], false) := by unfold readPS; rw [if_neg h]
theorem readPS_none {s : ByteArray} (h : parseS (splL s 10).dropLast [] = none) : readPS s = ([], false) := by
  unfold readPS
  split
  · rw [h]
  · rfl
theorem readPS_some {s : ByteArray} {l : List PieceD} (h0 : tlOk (splL s 10) = true ∧ (splL s 10).length ≤ 41) (h : parseS (splL s 10).dropLast [] = some l) : readPS s = if validS l = true then (l, true) else ([], false) := by
  unfold readPS
  rw [if_pos h0, h]

theorem grown_set (w : World) (b o : Nat) (v : Value) : w.grownBy (w.setCell ⟨b, o, none⟩ v) (some b) :=
  ⟨rfl, rfl, rfl, by simp only [World.size_setCell]; exact Nat.le_refl _, fun k _ hk => Below.heap_setCell _ _ _ k (fun e => hk (by rw [e]))⟩

set_option maxRecDepth 100000 in
set_option maxHeartbeats 8000000 in
theorem ReadPiecesS_c (s : ByteArray) (w : World) (hs : s.size ≤ 1048576) :
    Calls Tryd.prog 31 #[.string s] w fun e w' => ∃ v, e = .returned (.tuple #[v, .bool (readPS s).2]) ∧ w'.ownsRow w.heap.size 79 4 v (readPS s).1.length ((readPS s).1.flatMap pcell) ∧ Below w.heap.size w w' := by
  obtain ⟨i0, hi0, hy0, hy1, hy2⟩ := info_parts info_piece
  have HTL := Lib.hid (l01Split_c s 10 w hs)
  have HSZ := Lib.hid (splL_size s 10)
  have hLL := splL_len s 10
  obtain ⟨L, hLe⟩ : ∃ L, L = splL s 10 := ⟨_, rfl⟩
  have HNO0 := Lib.hid (fun (h : ¬ (tlOk L = true ∧ L.length ≤ 41)) => readPS_no (s := s) (by rw [← hLe]; exact h))
  have HNO := Lib.hid (fun (h : parseS L.dropLast [] = none) => readPS_none (s := s) (by rw [← hLe]; exact h))
  have HSO := Lib.hid (fun l (h0 : tlOk L = true ∧ L.length ≤ 41) (h : parseS L.dropLast [] = some l) => readPS_some (s := s) (by rw [← hLe]; exact h0) (by rw [← hLe]; exact h))
  rw [← hLe] at HTL HSZ hLL
  clear hLe
  obtain ⟨n, hn⟩ : ∃ n, L.length = n + 1 := ⟨L.length - 1, by omega⟩
  obtain ⟨last, hlast⟩ := get_ex L n (by omega)
  have HTK := Lib.hid (show tlOk L = (last.size == 0) by
    unfold tlOk
    rw [List.getLast?_eq_getElem?, hn, Nat.add_sub_cancel, hlast]
    rfl)
  go_enter Tryd.func31, Tryd.ntmps31
  go_wp2_with fail
  refine HTL.out.mono ?_
  rintro e w1 ⟨v, rfl, hown, hb1⟩
  obtain ⟨g0, cap0, rfl, hg0B, hg0, hcell⟩ := words_in hown hn
  have HCL := Lib.hid hcell
  have el := hcell n last hlast
  have HN := Lib.hid hn
  have hn2 : n ≤ 1048576 := by omega
  have HDL := Lib.hid (show ∀ k, k < n → ∃ ln, L.dropLast[k]? = some ln ∧ L[k]? = some ln from fun k hk => by
    obtain ⟨ln, hl⟩ := get_ex L k (by omega)
    refine ⟨ln, ?_, hl⟩
    rw [List.dropLast_eq_take, List.getElem?_take_of_lt (by omega)]
    exact hl)
  have HDN := Lib.hid (show L.dropLast.length = n by rw [List.length_dropLast]; omega)
  clear hcell hown hlast hn HTL
  have p1 : (0 : Int) ≤ (n : Int) := by omega
  have p2 : (n : Int) < (n : Int) + 1 := by omega
  have p3 : n < n + 1 := by omega
  have e1 : IntKind.i64.wrap ((n : Int) + 1 - 1) = (n : Int) := by rw [Int.add_sub_cancel]; exact IntWalk.i64_in _ (by omega)
  have e2 : IntKind.i64.wrap (n : Int) = (n : Int) := IntWalk.i64_in _ (by omega)
  have hf0 := far hg0
  by_cases htl : last.size = 0
  rotate_left
  · have HF := Lib.hid (HNO0.out (fun h => by rw [HTK.out] at h; exact htl (by simpa using h.1)))
    have h1 : last.toList.isEmpty = false := by rw [size_toList]; exact decide_eq_false htl
    go_wp2_with fail
    refine bodyPost_ret (v := .tuple #[.slice none 0 0, .bool false]) (by simp only [results, Tryd.results31]; go_simp) rfl ⟨_, by rw [HF.out], by rw [HF.out]; exact World.ownsRow_nil _ _ _ _, by (repeat' (first | (with_reducible exact Below.refl _ _) | (with_reducible assumption) | (with_reducible refine below_drewN ?_ _) | (with_reducible refine Below.drew ?_) | (with_reducible refine Below.alloc ?_ ?_ _) | (with_reducible refine Below.setCell ?_ ?_ _) | (with_reducible refine via (by with_reducible assumption) ?_ ?_) | go_size))⟩
  have h1 : last.toList.isEmpty = true := by rw [size_toList]; exact decide_eq_true htl
  by_cases h41 : n + 1 ≤ 41
  rotate_left
  · have HF := Lib.hid (HNO0.out (fun h => h41 (by rw [← HN.out]; exact h.2)))
    have q1 : (41 : Int) < (n : Int) + 1 := by omega
    have q2 : 41 < n + 1 := by omega
    go_wp2_with fail
    refine bodyPost_ret (v := .tuple #[.slice none 0 0, .bool false]) (by simp only [results, Tryd.results31]; go_simp) rfl ⟨_, by rw [HF.out], by rw [HF.out]; exact World.ownsRow_nil _ _ _ _, by (repeat' (first | (with_reducible exact Below.refl _ _) | (with_reducible assumption) | (with_reducible refine below_drewN ?_ _) | (with_reducible refine Below.drew ?_) | (with_reducible refine Below.alloc ?_ ?_ _) | (with_reducible refine Below.setCell ?_ ?_ _) | (with_reducible refine via (by with_reducible assumption) ?_ ?_) | go_size))⟩
  have HT0 := Lib.hid (show tlOk L = true ∧ L.length ≤ 41 from ⟨by rw [HTK.out]; exact beq_iff_eq.2 htl, by rw [HN.out]; exact h41⟩)
  have q1 : ¬ (41 : Int) < (n : Int) + 1 := by omega
  have q2 : ¬ 41 < n + 1 := by omega
  have hown0 : (w1.alloc (.cells #[] 79)).ownsRow w1.heap.size 79 4 (.slice (some ⟨w1.heap.size, 0, none⟩) 0 0) 0 (([] : List PieceD).flatMap pcell) := World.ownsRow_made w1 #[] 0 (Nat.le_refl _) (by simp [maxLen]) (by simp)
  have HCL2 := Lib.hid (fun w' (h : Below w1.heap.size w1 w') k x (hx : L[k]? = some x) => (h.cell (p := ⟨g0, k, none⟩) hg0).trans (HCL.out k x hx))
  go_wp2_with fail
  go_loopw [5, 6] (fun o i wr => ∃ (k : Nat) (out : List PieceD), k ≤ n ∧ i = .int .i64 k ∧ out.length = k ∧ parseS (L.dropLast.drop k) out = parseS L.dropLast [] ∧ (∀ d ∈ out, okP d) ∧ Below w1.heap.size w1 wr ∧ wr.ownsRow w1.heap.size 79 4 o k (out.flatMap pcell)) (fun _ i _ => n - (intOf i).toNat)
  case atStart => exact ⟨0, [], Nat.zero_le _, rfl, rfl, rfl, fun d hd => (by cases hd), by (repeat' (first | (with_reducible exact Below.refl _ _) | (with_reducible assumption) | (with_reducible refine below_drewN ?_ _) | (with_reducible refine Below.drew ?_) | (with_reducible refine Below.alloc ?_ ?_ _) | (with_reducible refine Below.setCell ?_ ?_ _) | (with_reducible refine via (by with_reducible assumption) ?_ ?_) | go_size)), hown0⟩
  case round =>
    clear hown0 el h1 q1 q2 hf0
    obtain ⟨k, out, hk, rfl, hol, hpa, hok, hb, hx⟩ := hrel
    obtain ⟨oA, oc, rfl, _⟩ := own_form hx
    have HX := Lib.hid hx; clear hx
    have HPA := Lib.hid hpa; have HOK := Lib.hid hok; have HOLN := Lib.hid hol
    clear hpa hok hol
    have hbs := hb.size
    have hbw : Below w.heap.size w wr := hb1.trans (hb.mono hb1.size)
    by_cases hlt : k < n
    · obtain ⟨ln, hld, hln⟩ := HDL.out k hlt
      have f9 := HCL2.out wr hb k ln hln
      have hls : ln.size ≤ 1048576 := by have := HSZ.out ln (List.mem_of_getElem? hln); omega
      have HD := Lib.hid (show L.dropLast.drop k = ln :: L.dropLast.drop (k + 1) by
        rw [List.drop_eq_getElem_cons (by rw [HDN.out]; exact hlt)]
        congr 1
        obtain ⟨_, h2⟩ := List.getElem?_eq_some_iff.1 hld
        exact h2)
      have r1 : (0 : Int) ≤ (k : Int) := by omega
      have r2 : (k : Int) < (n : Int) := by omega
      have r3 : (k : Int) < (n : Int) + 1 := by omega
      have r4 : k < n + 1 := by omega
      have hf := far (Nat.lt_of_lt_of_le hg0 hbs)
      have HPR := Lib.hid (l01Split_c ln 32 wr hls)
      have HWS := Lib.hid (splL_size ln 32)
      clear hln hld
      go_wp2_with fail
      refine HPR.out.mono ?_
      rintro e w3 ⟨v3, rfl, hown3, hb3⟩
      have HX3 := Lib.hid (own_call HX.out hb3)
      have hbw3 : Below w.heap.size w w3 := hbw.trans (hb3.mono hbw.size)
      have hbb3 : Below w1.heap.size w1 w3 := hb.trans (hb3.mono hbs)
      by_cases hL : (splL ln 32).length = 4
      rotate_left
      · have HF := Lib.hid (HNO.out (by rw [← HPA.out, HD.out]; exact parseS_no hL))
        obtain ⟨A9, c9, rfl, _⟩ := own_form hown3
        have q1 : (((splL ln 32).length : Int) == 4) = false := by rw [beq_eq_false_iff_ne]; omega
        have q2 : (((splL ln 32).length : Int) != 4) = true := by rw [bne_iff_ne]; omega
        have q3 : ((splL ln 32).length == 4) = false := by rw [beq_eq_false_iff_ne]; exact hL
        have q4 : ((splL ln 32).length != 4) = true := by rw [bne_iff_ne]; exact hL
        generalize (splL ln 32).length = kk at *
        go_wp2_with fail
        refine bodyPost_ret (v := .tuple #[.slice none 0 0, .bool false]) (by simp only [results, Tryd.results31]; go_simp) rfl ⟨_, by rw [HF.out], by rw [HF.out]; exact World.ownsRow_nil _ _ _ _, hbw3⟩
      obtain ⟨g, cap, rfl, hgB, hgl, hcell⟩ := words_in hown3 hL
      obtain ⟨x0, x1, x2, x3, hX⟩ := list4p hL
      rw [hX] at hcell hown3
      have f0 := hcell 0 x0 rfl
      have f1 := hcell 1 x1 rfl
      have f2 := hcell 2 x2 rfl
      have f3 := hcell 3 x3 rfl
      have s0 := HWS.out x0 (by rw [hX]; simp)
      have s1 := HWS.out x1 (by rw [hX]; simp)
      have s2 := HWS.out x2 (by rw [hX]; simp)
      have s3 := HWS.out x3 (by rw [hX]; simp)
      rcases ha : rdec x2 with ⟨a, oa⟩
      rcases hbq : rdec x3 with ⟨b2, ob⟩
      have hba := rdec_bd x2
      have hbb := rdec_bd x3
      rw [ha] at hba
      rw [hbq] at hbb
      have HPS := Lib.hid (show parseS L.dropLast [] = if (oa && ob && okS1 out x1) = true then parseS (L.dropLast.drop (k + 1)) (out ++ [⟨x0, lastP out x1 out.length, a, b2⟩]) else none by
        rw [← HPA.out, HD.out, parseS_at hX, ha, hbq])
      rw [HOLN.out] at HPS
      have HA := Lib.hid (fun w' => ha ▸ l01Number_c x2 w' (by unfold maxLen; omega))
      have HB := Lib.hid (fun w' => hbq ▸ l01Number_c x3 w' (by unfold maxLen; omega))
      have hlb := lastP_bd out x1 k
      clear ha hbq hcell hown3 hL HWS HPR f9 hf
      have hfg := far hgl
      have hs3 := hbw3.size
      have hs33 := hbb3.size
      go_wp2_with fail
      go_loopw [9] (fun j wr => ∃ (m : Nat), m ≤ k ∧ j = .int .i64 m ∧ wr.cell? ⟨w3.heap.size, 0, none⟩ = some (.string x0) ∧ wr.cell? ⟨w3.heap.size, 1, none⟩ = some (.int .i64 (lastP out x1 m)) ∧ wr.cell? ⟨w3.heap.size, 2, none⟩ = some (.int .i64 0) ∧ wr.cell? ⟨w3.heap.size, 3, none⟩ = some (.int .i64 0) ∧ (∀ o, wr.frozen? ⟨w3.heap.size, o, none⟩ = false) ∧ w3.heap.size < wr.heap.size ∧ Below w3.heap.size w3 wr) (fun j _ => k - (intOf j).toNat)
      case atStart => exact ⟨0, Nat.zero_le _, rfl, by simp [go_sem], by simp [go_sem]; rfl, by simp [go_sem], by simp [go_sem], fun o => by simp [go_sem], by simp [go_sem], by (repeat' (first | (with_reducible exact Below.refl _ _) | (with_reducible assumption) | (with_reducible refine below_drewN ?_ _) | (with_reducible refine Below.drew ?_) | (with_reducible refine Below.alloc ?_ ?_ _) | (with_reducible refine Below.setCell ?_ ?_ _) | (with_reducible refine via (by with_reducible assumption) ?_ ?_) | go_size))⟩
      case round =>
        obtain ⟨m, hm, rfl, c0, c1, c2, c3, hfz, hlt3, hb5⟩ := hrel
        have HFZ := Lib.hid hfz; clear hfz
        have hb5s := hb5.size
        have hbw5 : Below w.heap.size w wr := hbw3.trans (hb5.mono hs3)
        have hbb5 : Below w1.heap.size w1 wr := hbb3.trans (hb5.mono hs33)
        have HX5 := Lib.hid (own_call HX3.out hb5)
        obtain ⟨hc5, _⟩ := bcell hb5
        have w0c := (hc5 _ 0 hgl).trans f0
        have w1c := (hc5 _ 1 hgl).trans f1
        have w2c := (hc5 _ 2 hgl).trans f2
        have w3c := (hc5 _ 3 hgl).trans f3
        have hfg5 := far (Nat.lt_of_lt_of_le hgl hb5s)
        have hfx5 := far hlt3
        have hgx : ¬ g = w3.heap.size := by omega
        have hgx2 : ¬ w3.heap.size = g := by omega
        clear hc5
        by_cases hmk : m < k
        · obtain ⟨bo, oo, rfl, hbo, hco⟩ := (Rd.of_own pcell_len (by decide) (n := k) (c := oc) HX5.out).piece (by rw [HOLN.out]; omega)
          obtain ⟨d, hd⟩ := get_ex out m (by rw [HOLN.out]; omega)
          have d0 := (hco m d hd).1
          have HG := Lib.hid (getP_eq hd)
          have hbo3 : ¬ bo = w3.heap.size := by
            obtain ⟨gg, hgg, _, hlt⟩ : ∃ gg, (some ⟨bo, oo, none⟩ : Option Addr) = some ⟨gg, 0, none⟩ ∧ w1.heap.size ≤ gg ∧ gg < w3.heap.size := by
              rcases HX3.out.2 with ⟨_, h0⟩ | ⟨gg, cc, cur, hv, _⟩
              · omega
              · have e : (some ⟨bo, oo, none⟩ : Option Addr) = some ⟨gg, 0, none⟩ := by injection hv
                exact ⟨gg, e, (HX3.out.lt gg (by rw [e]; rfl)).1, (HX3.out.lt gg (by rw [e]; rfl)).2⟩
            injection hgg with hgg
            injection hgg with h1 h2
            omega
          have hfo := far hbo
          have u1 : (0 : Int) ≤ (m : Int) := by omega
          have u2 : (m : Int) < (k : Int) := by omega
          clear hco hd
          cases hq : (d.name.toList == x1.toList)
          · have HLP := Lib.hid (show lastP out x1 (m + 1) = lastP out x1 m by simp only [lastP]; rw [HG.out, hq]; rfl)
            go_wp2_with fail
            (refine wp_region_quiet_below (by kernel_rfl) (by kernel_rfl) ?_; (repeat (go_big_quiet_step (first | fail))); refine wpQuiet_nil ?_; refine qg_end ?_; intro wq hbq)
            obtain ⟨w6, rfl⟩ : ∃ u : World, u = wq := ⟨_, rfl⟩
            obtain ⟨hc6, hf6⟩ := bcell hbq
            rw [← hc6 _ _ hlt3] at c0 c1 c2 c3
            have HF6 := Lib.hid (fun o => (hf6 w3.heap.size o hlt3).trans (HFZ.out o))
            have hl6 := Nat.lt_of_lt_of_le hlt3 hbq.size
            have hb6 : Below w3.heap.size w3 w6 := hb5.trans (hbq.mono hb5s)
            clear hc6 hf6 hbq
            go_wp2_with fail
            (first | (refine ⟨?_, ?_⟩; rotate_left; (first | (simp [intOf]; done) | (simp [intOf]; omega)); (repeat apply Exists.intro); refine ⟨?_, rfl⟩; exact ⟨m + 1, by omega, by go_num, c0, by rw [HLP.out]; exact c1, c2, c3, HF6.out, hl6, hb6⟩) | exact ⟨⟨m + 1, by omega, by go_num, c0, by rw [HLP.out]; exact c1, c2, c3, HF6.out, hl6, hb6⟩, by first | (simp [intOf]; done) | (simp [intOf]; omega)⟩)
          · have HLP := Lib.hid (show lastP out x1 (m + 1) = (m : Int) by simp only [lastP]; rw [HG.out, hq]; rfl)
            have q5 : d.name.toList = x1.toList := eq_of_beq hq
            go_wp2_with fail
            (refine wp_region_quiet_below (by kernel_rfl) (by kernel_rfl) ?_; (repeat (go_big_quiet_step (first | fail))); refine wpQuiet_nil ?_; refine qg_end ?_; intro wq hbq)
            obtain ⟨w6, rfl⟩ : ∃ u : World, u = wq := ⟨_, rfl⟩
            obtain ⟨hc6, hf6⟩ := bcell hbq
            rw [← hc6 _ _ hlt3] at c0 c1 c2 c3
            have HF6 := Lib.hid (fun o => (hf6 w3.heap.size o hlt3).trans (HFZ.out o))
            have hl6 := Nat.lt_of_lt_of_le hlt3 hbq.size
            have hb6 : Below w3.heap.size w3 w6 := hb5.trans (hbq.mono hb5s)
            have z1 := HF6.out 1
            have ne : ∀ o', 1 ≠ o' → (⟨w3.heap.size, 1, none⟩ : Addr) ≠ ⟨w3.heap.size, o', none⟩ := fun o' h e => h (by injection e)
            have C0 := Lib.hid (show (w6.setCell ⟨w3.heap.size, 1, none⟩ (.int .i64 (m : Int))).cell? ⟨w3.heap.size, 0, none⟩ = some (.string x0) by rw [World.cell?_setCell_other (h := ne 0 (by decide))]; exact c0)
            have C1 := Lib.hid (show (w6.setCell ⟨w3.heap.size, 1, none⟩ (.int .i64 (m : Int))).cell? ⟨w3.heap.size, 1, none⟩ = some (.int .i64 (lastP out x1 (m + 1))) by rw [HLP.out, World.cell?_setCell_same (h := c1)])
            have C2' := Lib.hid (show (w6.setCell ⟨w3.heap.size, 1, none⟩ (.int .i64 (m : Int))).cell? ⟨w3.heap.size, 2, none⟩ = some (.int .i64 0) by rw [World.cell?_setCell_other (h := ne 2 (by decide))]; exact c2)
            have C3 := Lib.hid (show (w6.setCell ⟨w3.heap.size, 1, none⟩ (.int .i64 (m : Int))).cell? ⟨w3.heap.size, 3, none⟩ = some (.int .i64 0) by rw [World.cell?_setCell_other (h := ne 3 (by decide))]; exact c3)
            have F7 := Lib.hid (show ∀ o, (w6.setCell ⟨w3.heap.size, 1, none⟩ (.int .i64 (m : Int))).frozen? ⟨w3.heap.size, o, none⟩ = false from fun o => by rw [World.frozen?_setCell]; exact HF6.out o)
            have B7 := Lib.hid (show Below w3.heap.size w3 (w6.setCell ⟨w3.heap.size, 1, none⟩ (.int .i64 (m : Int))) from hb6.setCell (Nat.le_refl _) _)
            clear hc6 hf6 hbq c0 c2 c3 ne q5
            have hl7 := far hl6
            go_wp2_with fail
            (first | (refine ⟨?_, ?_⟩; rotate_left; (first | (simp [intOf]; done) | (simp [intOf]; omega)); (repeat apply Exists.intro); refine ⟨?_, rfl⟩; exact ⟨m + 1, by omega, by go_num, C0.out, C1.out, C2'.out, C3.out, F7.out, by first | (simp only [World.size_setCell]; exact hl6) | exact hl6, B7.out⟩) | exact ⟨⟨m + 1, by omega, by go_num, C0.out, C1.out, C2'.out, C3.out, F7.out, by first | (simp only [World.size_setCell]; exact hl6) | exact hl6, B7.out⟩, by first | (simp [intOf]; done) | (simp [intOf]; omega)⟩)
        · obtain rfl : m = k := by omega
          clear f0 f1 f2 f3 hfg
          go_wp2_with fail
          refine (HA.out _).mono ?_
          rintro e w6 ⟨rfl, hb6⟩
          obtain ⟨hc, hf6⟩ := bcell hb6
          have hg5 := Nat.lt_of_lt_of_le hgl hb5s
          rw [← hc _ _ hg5] at w0c w1c w2c w3c
          rw [← hc _ _ hlt3] at c0 c1 c2 c3
          have HF6 := Lib.hid (fun o => (hf6 w3.heap.size o hlt3).trans (HFZ.out o))
          have hg6 := Nat.lt_of_lt_of_le hg5 hb6.size
          have hl6 := Nat.lt_of_lt_of_le hlt3 hb6.size
          have HX6 := Lib.hid (own_call HX5.out hb6)
          have hbw6 : Below w.heap.size w w6 := hbw5.trans (hb6.mono hbw5.size)
          have hbb6 : Below w1.heap.size w1 w6 := hbb5.trans (hb6.mono hbb5.size)
          clear hc hf6 hb6 HX5 HFZ hfg5 hfx5
          have hfg6 := far hg6
          go_wp2_with fail
          refine (HB.out _).mono ?_
          rintro e w7 ⟨rfl, hb7⟩
          obtain ⟨hc, hf7⟩ := bcell hb7
          rw [← hc _ _ hg6] at w0c w1c w2c w3c
          rw [← hc _ _ hl6] at c0 c1 c2 c3
          have HF7 := Lib.hid (fun o => (hf7 w3.heap.size o hl6).trans (HF6.out o))
          have hg7 := Nat.lt_of_lt_of_le hg6 hb7.size
          have hl7 := Nat.lt_of_lt_of_le hl6 hb7.size
          have HX7 := Lib.hid (own_call HX6.out hb7)
          have hbw7 : Below w.heap.size w w7 := hbw6.trans (hb7.mono hbw6.size)
          have hbb7 : Below w1.heap.size w1 w7 := hbb6.trans (hb7.mono hbb6.size)
          have hs7 := hbw7.size
          have hs17 := hbb7.size
          clear hc hf7 hb7 HX6 HF6 hfg6 hbw6 hbb6
          have hfg7 := far hg7
          have hfx7 := far hl7
          cases oa
          · have HF := Lib.hid (HNO.out (by rw [HPS.out]; simp))
            go_wp2_with fail
            refine bodyPost_ret (v := .tuple #[.slice none 0 0, .bool false]) (by simp only [results, Tryd.results31]; go_simp) rfl ⟨_, by rw [HF.out], by rw [HF.out]; exact World.ownsRow_nil _ _ _ _, by (repeat' (first | (with_reducible exact Below.refl _ _) | (with_reducible assumption) | (with_reducible refine below_drewN ?_ _) | (with_reducible refine Below.drew ?_) | (with_reducible refine Below.alloc ?_ ?_ _) | (with_reducible refine Below.setCell ?_ ?_ _) | (with_reducible refine via (by with_reducible assumption) ?_ ?_) | go_size))⟩
          cases ob
          · have HF := Lib.hid (HNO.out (by rw [HPS.out]; simp))
            go_wp2_with fail
            refine bodyPost_ret (v := .tuple #[.slice none 0 0, .bool false]) (by simp only [results, Tryd.results31]; go_simp) rfl ⟨_, by rw [HF.out], by rw [HF.out]; exact World.ownsRow_nil _ _ _ _, by (repeat' (first | (with_reducible exact Below.refl _ _) | (with_reducible assumption) | (with_reducible refine below_drewN ?_ _) | (with_reducible refine Below.drew ?_) | (with_reducible refine Below.alloc ?_ ?_ _) | (with_reducible refine Below.setCell ?_ ?_ _) | (with_reducible refine via (by with_reducible assumption) ?_ ?_) | go_size))⟩
          cases hok1 : okS1 out x1
          · have HF := Lib.hid (HNO.out (by rw [HPS.out, hok1]; simp))
            unfold okS1 at hok1
            rw [HOLN.out] at hok1
            by_cases hk0 : m = 0
            · subst hk0
              have hx1 : (x1.toList == (⟨#[45]⟩ : ByteArray).toList) = false := by
                cases hx : (x1.toList == (⟨#[45]⟩ : ByteArray).toList)
                · rfl
                · rw [hx] at hok1; simp at hok1
              have q2 : (x1.toList != (⟨#[45]⟩ : ByteArray).toList) = true := by unfold bne; rw [hx1]; rfl
              have q5 : ¬ x1.toList = (⟨#[45]⟩ : ByteArray).toList := beq_eq_false_iff_ne.1 hx1
              have q6 : ¬ x1.toList = [45] := by rw [← one_toList 45]; exact q5
              have q7 : (x1.toList == [45]) = false := beq_eq_false_iff_ne.2 q6
              have q8 : (x1.toList != [45]) = true := by unfold bne; rw [q7]; rfl
              clear hok1
              go_wp2_with fail
              refine bodyPost_ret (v := .tuple #[.slice none 0 0, .bool false]) (by simp only [results, Tryd.results31]; go_simp) rfl ⟨_, by rw [HF.out], by rw [HF.out]; exact World.ownsRow_nil _ _ _ _, by (repeat' (first | (with_reducible exact Below.refl _ _) | (with_reducible assumption) | (with_reducible refine below_drewN ?_ _) | (with_reducible refine Below.drew ?_) | (with_reducible refine Below.alloc ?_ ?_ _) | (with_reducible refine Below.setCell ?_ ?_ _) | (with_reducible refine via (by with_reducible assumption) ?_ ?_) | go_size))⟩
            · have hneg : lastP out x1 m < 0 := by
                by_cases hl : lastP out x1 m < 0
                · exact hl
                · rw [decide_eq_false hk0, decide_eq_false hl] at hok1; simp at hok1
              have u1 : ¬ (m : Int) = 0 := by omega
              have u2 : (0 : Int) < (m : Int) := by omega
              have u3 : 0 < m := by omega
              clear hok1
              generalize lastP out x1 m = pp at *
              go_wp2_with fail
              refine bodyPost_ret (v := .tuple #[.slice none 0 0, .bool false]) (by simp only [results, Tryd.results31]; go_simp) rfl ⟨_, by rw [HF.out], by rw [HF.out]; exact World.ownsRow_nil _ _ _ _, by (repeat' (first | (with_reducible exact Below.refl _ _) | (with_reducible assumption) | (with_reducible refine below_drewN ?_ _) | (with_reducible refine Below.drew ?_) | (with_reducible refine Below.alloc ?_ ?_ _) | (with_reducible refine Below.setCell ?_ ?_ _) | (with_reducible refine via (by with_reducible assumption) ?_ ?_) | go_size))⟩
          have HPA2 := Lib.hid (show parseS (L.dropLast.drop (m + 1)) (out ++ [⟨x0, lastP out x1 m, a, b2⟩]) = parseS L.dropLast [] by rw [HPS.out, hok1]; simp)
          have HL2 := Lib.hid (show (out ++ [(⟨x0, lastP out x1 m, a, b2⟩ : PieceD)]).length = m + 1 by rw [List.length_append, HOLN.out]; rfl)
          have HFM := Lib.hid (show (out ++ [(⟨x0, lastP out x1 m, a, b2⟩ : PieceD)]).flatMap pcell = out.flatMap pcell ++ pcell ⟨x0, lastP out x1 m, a, b2⟩ by simp)
          have HOK2 := Lib.hid (show ∀ d ∈ out ++ [(⟨x0, lastP out x1 m, a, b2⟩ : PieceD)], okP d from fun d hd => by
            rw [List.mem_append] at hd
            rcases hd with hd | hd
            · exact HOK.out d hd
            · simp at hd
              subst hd
              exact ⟨by show x0.size ≤ maxLen; unfold maxLen; omega, wf64_of (by show _ ≤ lastP out x1 m ∧ lastP out x1 m ≤ _; omega), wf64_of (by show _ ≤ a ∧ a ≤ _; omega), wf64_of (by show _ ≤ b2 ∧ b2 ≤ _; omega)⟩)
          have hok2 := hok1
          unfold okS1 at hok2
          rw [HOLN.out] at hok2
          have z2 := HF7.out 2
          have z3 := HF7.out 3
          have HXG := Lib.hid (fun q (hq : (Value.slice oA m oc).ownBlock = some q) => (HX3.out.lt q hq).2)
          by_cases hk0 : m = 0
          · subst hk0
            have hx1 : (x1.toList == (⟨#[45]⟩ : ByteArray).toList) = true := by
              cases hx : (x1.toList == (⟨#[45]⟩ : ByteArray).toList)
              · rw [hx] at hok2; simp at hok2
              · rfl
            have q2 : (x1.toList != (⟨#[45]⟩ : ByteArray).toList) = false := by unfold bne; rw [hx1]; rfl
            have q5 : x1.toList = (⟨#[45]⟩ : ByteArray).toList := eq_of_beq hx1
            clear hok1 hok2
            generalize lastP out x1 0 = pp at *
            go_wp2_with (at_builtin; refine app_list (W := w1) (news := pcell ⟨x0, pp, a, b2⟩) (z := .agg #[.string ByteArray.empty, .int .i64 0, .int .i64 0, .int .i64 0]) (.tmp 108) (.tmp 110) rfl rfl Tryd.underlying45 hi0 hy0 hy1 hy2 rfl (by decide) (by decide) rfl (World.ownsRow.alloc (own_ne (own_ne HX7.out (grown_set w7 w3.heap.size 2 (.int .i64 a)) (fun q hq hc => by have := HXG.out q hq; simp only [Option.some.injEq] at hc; omega)) (grown_set _ w3.heap.size 3 (.int .i64 b2)) (fun q hq hc => by have := HXG.out q hq; simp only [Option.some.injEq] at hc; omega)) _) rfl rfl (news4 (by simp [go_sem]) (by simp [go_sem]) (by simp [go_sem]) (by simp [go_sem])) (pcell_one _) (by omega) (by (repeat' (first | (with_reducible exact Below.refl _ _) | (with_reducible assumption) | (with_reducible refine below_drewN ?_ _) | (with_reducible refine Below.drew ?_) | (with_reducible refine Below.alloc ?_ ?_ _) | (with_reducible refine Below.setCell ?_ ?_ _) | (with_reducible refine via (by with_reducible assumption) ?_ ?_) | go_size))) (Nat.le_refl _) ?_; intro v9 w9 hown9 _ _ hb9)
            have HO9 := Lib.hid hown9; clear hown9
            (first | (refine ⟨?_, ?_⟩; rotate_left; (first | (simp [intOf]; done) | (simp [intOf]; omega)); (repeat apply Exists.intro); refine ⟨?_, rfl⟩; exact ⟨0 + 1, out ++ [⟨x0, pp, a, b2⟩], by omega, by go_num, HL2.out, HPA2.out, HOK2.out, hb9, by rw [HFM.out]; exact HO9.out⟩) | exact ⟨⟨0 + 1, out ++ [⟨x0, pp, a, b2⟩], by omega, by go_num, HL2.out, HPA2.out, HOK2.out, hb9, by rw [HFM.out]; exact HO9.out⟩, by first | (simp [intOf]; done) | (simp [intOf]; omega)⟩)
          · have hpos : ¬ lastP out x1 m < 0 := fun hl => by rw [decide_eq_true hl, decide_eq_true (show 0 < m by omega)] at hok2; simp at hok2
            have u1 : ¬ (m : Int) = 0 := by omega
            have u2 : (0 : Int) < (m : Int) := by omega
            have u3 : 0 < m := by omega
            clear hok1 hok2
            generalize lastP out x1 m = pp at *
            go_wp2_with (at_builtin; refine app_list (W := w1) (news := pcell ⟨x0, pp, a, b2⟩) (z := .agg #[.string ByteArray.empty, .int .i64 0, .int .i64 0, .int .i64 0]) (.tmp 108) (.tmp 110) rfl rfl Tryd.underlying45 hi0 hy0 hy1 hy2 rfl (by decide) (by decide) rfl (World.ownsRow.alloc (own_ne (own_ne HX7.out (grown_set w7 w3.heap.size 2 (.int .i64 a)) (fun q hq hc => by have := HXG.out q hq; simp only [Option.some.injEq] at hc; omega)) (grown_set _ w3.heap.size 3 (.int .i64 b2)) (fun q hq hc => by have := HXG.out q hq; simp only [Option.some.injEq] at hc; omega)) _) rfl rfl (news4 (by simp [go_sem]) (by simp [go_sem]) (by simp [go_sem]) (by simp [go_sem])) (pcell_one _) (by omega) (by (repeat' (first | (with_reducible exact Below.refl _ _) | (with_reducible assumption) | (with_reducible refine below_drewN ?_ _) | (with_reducible refine Below.drew ?_) | (with_reducible refine Below.alloc ?_ ?_ _) | (with_reducible refine Below.setCell ?_ ?_ _) | (with_reducible refine via (by with_reducible assumption) ?_ ?_) | go_size))) (Nat.le_refl _) ?_; intro v9 w9 hown9 _ _ hb9)
            have HO9 := Lib.hid hown9; clear hown9
            (first | (refine ⟨?_, ?_⟩; rotate_left; (first | (simp [intOf]; done) | (simp [intOf]; omega)); (repeat apply Exists.intro); refine ⟨?_, rfl⟩; exact ⟨m + 1, out ++ [⟨x0, pp, a, b2⟩], by omega, by go_num, HL2.out, HPA2.out, HOK2.out, hb9, by rw [HFM.out]; exact HO9.out⟩) | exact ⟨⟨m + 1, out ++ [⟨x0, pp, a, b2⟩], by omega, by go_num, HL2.out, HPA2.out, HOK2.out, hb9, by rw [HFM.out]; exact HO9.out⟩, by first | (simp [intOf]; done) | (simp [intOf]; omega)⟩)
    · obtain rfl : k = n := by omega
      have hpa := HPA.out
      rw [List.drop_eq_nil_of_le (by rw [HDN.out]; exact Nat.le_refl _)] at hpa
      have hso := HSO.out out HT0.out (by rw [← hpa]; rfl)
      have q1 : ¬ (k : Int) < (k : Int) := by omega
      cases hv : validS out
      · have HF := Lib.hid (show readPS s = ([], false) by rw [hso, hv]; rfl)
        have HVV := Lib.hid (retb (l21OkB_c oA k oc out wr HOLN.out (by omega) (Rd.of_own pcell_len (by decide) (n := k) (c := oc) HX.out) HOK.out) hv)
        clear hso hv
        go_wp2_with fail
        refine HVV.out.mono ?_
        rintro e w3 ⟨rfl, hb3⟩
        have hbw3 := hbw.trans (hb3.mono hbw.size)
        go_wp2_with fail
        refine bodyPost_ret (v := .tuple #[.slice none 0 0, .bool false]) (by simp only [results, Tryd.results31]; go_simp) rfl ⟨_, by rw [HF.out], by rw [HF.out]; exact World.ownsRow_nil _ _ _ _, hbw3⟩
      · have HF := Lib.hid (show readPS s = (out, true) by rw [hso, hv, if_pos rfl])
        have HVV := Lib.hid (retb (l21OkB_c oA k oc out wr HOLN.out (by omega) (Rd.of_own pcell_len (by decide) (n := k) (c := oc) HX.out) HOK.out) hv)
        clear hso hv
        go_wp2_with fail
        refine HVV.out.mono ?_
        rintro e w3 ⟨rfl, hb3⟩
        have hbw3 := hbw.trans (hb3.mono hbw.size)
        have HX3 := Lib.hid (own_call HX.out hb3)
        go_wp2_with fail
        refine bodyPost_ret (v := .tuple #[.slice oA k oc, .bool true]) (by simp only [results, Tryd.results31]; go_simp) rfl ⟨_, by rw [HF.out], by rw [HF.out]; simp only [HOLN.out]; exact Go.Joins.ownsRow_le HX3.out hb1.size, hbw3⟩

end Go.Proofs.YtaebofpgdonnbaaDoor
