/- Contracts: the jobs read by the reference; both sides in one form. -/
import Derived.Test.YtaebofpgdonnbaaDoorReadJ2
set_option linter.unusedVariables false
set_option linter.unusedSimpArgs false
namespace Go.Proofs.YtaebofpgdonnbaaDoor
open Go.RowKit

theorem readJS_no {s : ByteArray} (h : ¬ (tlOk (splL s 10) = true ∧ (splL s 10).length ≤ 31)) : readJS s = ([], false) := by unfold readJS; rw [if_neg h]
theorem readJS_none {s : ByteArray} (h : parseS (splL s 10).dropLast [] = none) : readJS s = ([], false) := by
  unfold readJS
  split
  · rw [h]
  · rfl
theorem readJS_some {s : ByteArray} {l : List JobD} (h0 : tlOk (splL s 10) = true ∧ (splL s 10).length ≤ 31) (h : parseS (splL s 10).dropLast [] = some l) : readJS s = if validS l = true then (l, true) else ([], false) := by
  unfold readJS
  rw [if_pos h0, h]
/-- of a line that is shorter than the text -/
theorem splL_size2 (s : ByteArray) (hs : s.size ≤ 1048576) (hl : 2 ≤ (splL s 10).length) : ∀ x ∈ splL s 10, x.size ≤ 1048575 := fun x hx => by
  obtain ⟨acc, last, h1, h2⟩ := splL_join s 10
  have h1' : splL s 10 = acc ++ [last] := h1
  have key : ∀ (acc : List ByteArray), 1 ≤ acc.length → ∀ (last x : ByteArray), x ∈ acc ++ [last] → x.size + 1 ≤ (catc 10 acc ++ last).size := by
    intro acc
    induction acc with
    | nil => intro h; simp at h
    | cons a r ih =>
      intro _ last x hx
      have s1 : (⟨#[10]⟩ : ByteArray).size = 1 := rfl
      have e : (catc 10 (a :: r) ++ last).size = a.size + 1 + (catc 10 r ++ last).size := by
        show (a ++ ⟨#[10]⟩ ++ catc 10 r ++ last).size = _
        simp only [ByteArray.size_append]
        omega
      rw [e]
      simp only [List.cons_append, List.mem_cons] at hx
      rcases hx with rfl | hx
      · omega
      · cases r with
        | nil =>
          simp at hx
          subst hx
          simp only [ByteArray.size_append]
          omega
        | cons b q =>
          have := ih (by simp) last x hx
          omega
  rw [h1'] at hl hx
  have := key acc (by simp at hl; omega) last x hx
  rw [h2] at this
  omega

set_option maxRecDepth 100000 in
set_option maxHeartbeats 8000000 in
theorem ReadJobsS_c (s : ByteArray) (w : World) (hs : s.size ≤ 1048576) :
    Calls Tryd.prog 40 #[.string s] w fun e w' => ∃ v, e = .returned (.tuple #[v, .bool (readJS s).2]) ∧ JOwnS w' w.heap.size w'.heap.size v (readJS s).1.length (readJS s).1 ∧ Below w.heap.size w w' := by
  obtain ⟨i0, hi0, hy0, hy1, hy2⟩ := info_parts info_job
  have HTL := Lib.hid (l01Split_c s 10 w hs)
  have hLL := splL_len s 10
  obtain ⟨L, hLe⟩ : ∃ L, L = splL s 10 := ⟨_, rfl⟩
  have HSZ := Lib.hid (fun (hl : 2 ≤ L.length) => splL_size2 s hs (by rw [← hLe]; exact hl))
  have HNO0 := Lib.hid (fun (h : ¬ (tlOk L = true ∧ L.length ≤ 31)) => readJS_no (s := s) (by rw [← hLe]; exact h))
  have HNO := Lib.hid (fun (h : parseS L.dropLast [] = none) => readJS_none (s := s) (by rw [← hLe]; exact h))
  have HSO := Lib.hid (fun l (h0 : tlOk L = true ∧ L.length ≤ 31) (h : parseS L.dropLast [] = some l) => readJS_some (s := s) (by rw [← hLe]; exact h0) (by rw [← hLe]; exact h))
  rw [← hLe] at HTL HSZ hLL
  clear hLe
  obtain ⟨n, hn⟩ : ∃ n, L.length = n + 1 := ⟨L.length - 1, by omega⟩
  obtain ⟨last, hlast⟩ := get_ex L n (by omega)
  have HTK := Lib.hid (show tlOk L = (last.size == 0) by
    unfold tlOk
    rw [List.getLast?_eq_getElem?, hn, Nat.add_sub_cancel, hlast]
    rfl)
  go_enter Tryd.func40, Tryd.ntmps40
  go_wp2_with fail
  refine HTL.out.mono ?_
  rintro e w1 ⟨v, rfl, hown, hb1⟩
  obtain ⟨g0, cap0, rfl, hg0B, hg0, hcell⟩ := words_in hown hn
  have HCL := Lib.hid hcell
  have el := hcell n last hlast
  have HN := Lib.hid hn
  have hn2 : n ≤ 1048576 := by omega
  have HDL := Lib.hid (show ∀ k, k < n → ∃ ln, L.dropLast[k]? = some ln ∧ L[k]? = some ln from fun k hk => by
    obtain ⟨ln, hl⟩ := get_ex L k (by omega)
    refine ⟨ln, ?_, hl⟩
    rw [List.dropLast_eq_take, List.getElem?_take_of_lt (by omega)]
    exact hl)
  have HDN := Lib.hid (show L.dropLast.length = n by rw [List.length_dropLast]; omega)
  clear hcell hown hlast hn HTL
  have p1 : (0 : Int) ≤ (n : Int) := by omega
  have p2 : (n : Int) < (n : Int) + 1 := by omega
  have p3 : n < n + 1 := by omega
  have e1 : IntKind.i64.wrap ((n : Int) + 1 - 1) = (n : Int) := by rw [Int.add_sub_cancel]; exact IntWalk.i64_in _ (by omega)
  have e2 : IntKind.i64.wrap (n : Int) = (n : Int) := IntWalk.i64_in _ (by omega)
  have hf0 := far hg0
  by_cases htl : last.size = 0
  rotate_left
  · have HF := Lib.hid (HNO0.out (fun h => by rw [HTK.out] at h; exact htl (by simpa using h.1)))
    have h1 : last.toList.isEmpty = false := by rw [size_toList]; exact decide_eq_false htl
    go_wp2_with fail
    refine bodyPost_ret (v := .tuple #[.slice none 0 0, .bool false]) (by simp only [results, Tryd.results40]; go_simp) rfl ⟨_, by rw [HF.out], by rw [HF.out]; exact JOwnS.none _ _, by (repeat' (first | (with_reducible exact Below.refl _ _) | (with_reducible assumption) | (with_reducible refine below_drewN ?_ _) | (with_reducible refine Below.drew ?_) | (with_reducible refine Below.alloc ?_ ?_ _) | (with_reducible refine Below.setCell ?_ ?_ _) | (with_reducible refine via (by with_reducible assumption) ?_ ?_) | go_size))⟩
  have h1 : last.toList.isEmpty = true := by rw [size_toList]; exact decide_eq_true htl
  by_cases h41 : n + 1 ≤ 31
  rotate_left
  · have HF := Lib.hid (HNO0.out (fun h => h41 (by rw [← HN.out]; exact h.2)))
    have q1 : (31 : Int) < (n : Int) + 1 := by omega
    have q2 : 31 < n + 1 := by omega
    go_wp2_with fail
    refine bodyPost_ret (v := .tuple #[.slice none 0 0, .bool false]) (by simp only [results, Tryd.results40]; go_simp) rfl ⟨_, by rw [HF.out], by rw [HF.out]; exact JOwnS.none _ _, by (repeat' (first | (with_reducible exact Below.refl _ _) | (with_reducible assumption) | (with_reducible refine below_drewN ?_ _) | (with_reducible refine Below.drew ?_) | (with_reducible refine Below.alloc ?_ ?_ _) | (with_reducible refine Below.setCell ?_ ?_ _) | (with_reducible refine via (by with_reducible assumption) ?_ ?_) | go_size))⟩
  have HT0 := Lib.hid (show tlOk L = true ∧ L.length ≤ 31 from ⟨by rw [HTK.out]; exact beq_iff_eq.2 htl, by rw [HN.out]; exact h41⟩)
  have q1 : ¬ (31 : Int) < (n : Int) + 1 := by omega
  have q2 : ¬ 31 < n + 1 := by omega
  have hown0 : (w1.alloc (.cells #[] 93)).ownsRow w1.heap.size 93 4 (.slice (some ⟨w1.heap.size, 0, none⟩) 0 0) 0 [] := World.ownsRow_made w1 #[] 0 (Nat.le_refl _) (by simp [maxLen]) (by simp)
  have HOW0 := Lib.hid hown0; clear hown0
  have HCL2 := Lib.hid (fun w' (h : Below w1.heap.size w1 w') k x (hx : L[k]? = some x) => (h.cell (p := ⟨g0, k, none⟩) hg0).trans (HCL.out k x hx))
  go_wp2_with fail
  go_loopw [5, 6] (fun o i wr => ∃ (k : Nat) (out : List JobD), k ≤ n ∧ i = .int .i64 k ∧ parseS (L.dropLast.drop k) out = parseS L.dropLast [] ∧ (∀ d ∈ out, okN d) ∧ Below w1.heap.size w1 wr ∧ ∃ xs V, JX wr w1.heap.size wr.heap.size o k out xs V) (fun _ i _ => n - (intOf i).toNat)
  case atStart => exact ⟨0, [], Nat.zero_le _, rfl, rfl, fun d hd => (by cases hd), by (repeat' (first | (with_reducible exact Below.refl _ _) | (with_reducible assumption) | (with_reducible refine below_drewN ?_ _) | (with_reducible refine Below.drew ?_) | (with_reducible refine Below.alloc ?_ ?_ _) | (with_reducible refine Below.setCell ?_ ?_ _) | (with_reducible refine via (by with_reducible assumption) ?_ ?_) | go_size)), _, _, JX.nil HOW0.out (fun q hq => by simp only [Value.ownBlock, Option.some.injEq] at hq; simp [go_sem]; omega) (Nat.le_refl _)⟩
  case round =>
    clear HOW0 el h1 q1 q2 hf0
    obtain ⟨k, out, hk, rfl, hpa, hok, hb, xs, V, hx⟩ := hrel
    obtain ⟨wk, rfl⟩ : ∃ w' : World, w' = wr := ⟨_, rfl⟩
    obtain ⟨oA, oc, rfl, _⟩ := own_form hx.own
    have hol := hx.len
    have HX := Lib.hid hx; clear hx
    have HPA := Lib.hid hpa; have HOK := Lib.hid hok; have HOLN := Lib.hid hol
    clear hpa hok hol
    have hbs := hb.size
    have hbw : Below w.heap.size w wk := hb1.trans (hb.mono hb1.size)
    by_cases hlt : k < n
    · obtain ⟨ln, hld, hln⟩ := HDL.out k hlt
      have f9 := HCL2.out wk hb k ln hln
      have hls : ln.size ≤ 1048575 := HSZ.out (by rw [HN.out]; omega) ln (List.mem_of_getElem? hln)
      have HD := Lib.hid (show L.dropLast.drop k = ln :: L.dropLast.drop (k + 1) by
        rw [List.drop_eq_getElem_cons (by rw [HDN.out]; exact hlt)]
        congr 1
        obtain ⟨_, h2⟩ := List.getElem?_eq_some_iff.1 hld
        exact h2)
      have r1 : (0 : Int) ≤ (k : Int) := by omega
      have r2 : (k : Int) < (n : Int) := by omega
      have r3 : (k : Int) < (n : Int) + 1 := by omega
      have r4 : k < n + 1 := by omega
      have hf := far (Nat.lt_of_lt_of_le hg0 hbs)
      have HPR := Lib.hid (l22Line_c oA k oc out ln wk HOLN.out (by omega) HX.out.rd (by omega))
      have hon := lineJ_okN out hls
      have hps := parseS_line ln (L.dropLast.drop (k + 1)) out
      rw [← HD.out, HPA.out] at hps
      rcases hlj : lineJ out ln with ⟨d, okb⟩
      rw [hlj] at HPR hon hps
      dsimp only at HPR hon hps
      have HPS := Lib.hid hps; clear hps
      have HON := Lib.hid hon; clear hon
      clear hln hld hlj
      simp only [jagg] at HPR
      go_wp2_with fail
      refine HPR.out.mono ?_
      rintro e w3 ⟨U, C, rfl, hown3, hb3⟩
      have HX3 := Lib.hid (HX.out.below hb3 (Nat.le_refl _))
      have HU3 := Lib.hid hown3; clear hown3
      have hbw3 : Below w.heap.size w w3 := hbw.trans (hb3.mono hbw.size)
      have hbb3 : Below w1.heap.size w1 w3 := hb.trans (hb3.mono hbs)
      have hz3 := hb3.size
      clear f9 hf hb3
      cases okb
      · have HF := Lib.hid (HNO.out (by rw [HPS.out]; rfl))
        go_wp2_with fail
        refine bodyPost_ret (v := .tuple #[.slice none 0 0, .bool false]) (by simp only [results, Tryd.results40]; go_simp) rfl ⟨_, by rw [HF.out], by rw [HF.out]; exact JOwnS.none _ _, by (repeat' (first | (with_reducible exact Below.refl _ _) | (with_reducible assumption) | (with_reducible refine below_drewN ?_ _) | (with_reducible refine Below.drew ?_) | (with_reducible refine Below.alloc ?_ ?_ _) | (with_reducible refine Below.setCell ?_ ?_ _) | (with_reducible refine via (by with_reducible assumption) ?_ ?_) | go_size))⟩
      have HPA2 := Lib.hid (show parseS (L.dropLast.drop (k + 1)) (out ++ [d]) = parseS L.dropLast [] by rw [HPS.out]; rfl)
      have HOK2 := Lib.hid (show ∀ d' ∈ out ++ [d], okN d' from fun d' hd => by
        rw [List.mem_append] at hd
        rcases hd with hd | hd
        · exact HOK.out d' hd
        · simp at hd
          subst hd
          exact HON.out)
      go_upto_region 11 with fail
      refine gen_world fun W hW => ?_
      have hbW : Below w3.heap.size w3 W := by rw [hW.out]; (repeat' (first | (with_reducible exact Below.refl _ _) | (with_reducible assumption) | (with_reducible refine below_drewN ?_ _) | (with_reducible refine Below.drew ?_) | (with_reducible refine Below.alloc ?_ ?_ _) | (with_reducible refine Below.setCell ?_ ?_ _) | (with_reducible refine via (by with_reducible assumption) ?_ ?_) | go_size))
      have c0 : W.cell? ⟨w3.heap.size, 0, none⟩ = some (.string d.name) := by rw [hW.out]; simp [go_sem]
      have c1 : W.cell? ⟨w3.heap.size, 1, none⟩ = some (.int .i64 d.days) := by rw [hW.out]; simp [go_sem]
      have c2 : W.cell? ⟨w3.heap.size, 2, none⟩ = some (.int .i64 d.cost) := by rw [hW.out]; simp [go_sem]
      have c3 : W.cell? ⟨w3.heap.size, 3, none⟩ = some (.slice U d.needs.length C) := by rw [hW.out]; simp [go_sem]
      have hl3 := far (show w3.heap.size < W.heap.size by rw [hW.out]; simp [go_sem])
      clear hW
      have hWs := hbW.size
      have HXW := Lib.hid (HX3.out.below hbW hz3)
      have HUW := Lib.hid (own_call HU3.out hbW)
      have hbb4 : Below w1.heap.size w1 W := hbb3.trans (hbW.mono hbb3.size)
      go_wp2_with (at_builtin; refine app_list (W := w1) (news := [.string d.name, .int .i64 d.days, .int .i64 d.cost, .slice U d.needs.length C]) (z := .agg #[.string ByteArray.empty, .int .i64 0, .int .i64 0, .slice none 0 0]) (.tmp 42) (.tmp 44) rfl rfl Tryd.underlying56 hi0 hy0 hy1 hy2 rfl (by decide) (by decide) rfl (HXW.out.own.alloc _) rfl rfl (news4 (by simp [go_sem]) (by simp [go_sem]) (by simp [go_sem]) (by simp [go_sem])) (jnews_one _ _ _ _ _ _) (by omega) (by (repeat' (first | (with_reducible exact Below.refl _ _) | (with_reducible assumption) | (with_reducible refine below_drewN ?_ _) | (with_reducible refine Below.drew ?_) | (with_reducible refine Below.alloc ?_ ?_ _) | (with_reducible refine Below.setCell ?_ ?_ _) | (with_reducible refine via (by with_reducible assumption) ?_ ?_) | go_size))) (Nat.le_refl _) ?_; intro v8 w8 hown8 hg8 hblk8 hb8)
      have hXA := JX.app (d := d) (HXW.out.grown (World.grownBy_alloc W _ none) (fun q hq => by cases hq)) hbs (HUW.out.alloc _) hown8 hg8 hblk8
      have HXA := Lib.hid hXA
      clear hXA hown8 hg8 hblk8
      (first | (refine ⟨?_, ?_⟩; rotate_left; (first | (simp [intOf]; done) | (simp [intOf]; omega)); (repeat apply Exists.intro); refine ⟨?_, rfl⟩; exact ⟨k + 1, out ++ [d], by omega, by go_num, HPA2.out, HOK2.out, hb8, _, _, HXA.out⟩) | exact ⟨⟨k + 1, out ++ [d], by omega, by go_num, HPA2.out, HOK2.out, hb8, _, _, HXA.out⟩, by first | (simp [intOf]; done) | (simp [intOf]; omega)⟩)
    · obtain rfl : k = n := by omega
      have hpa := HPA.out
      rw [List.drop_eq_nil_of_le (by rw [HDN.out]; exact Nat.le_refl _)] at hpa
      have hso := HSO.out out HT0.out (by rw [← hpa]; rfl)
      have q1 : ¬ (k : Int) < (k : Int) := by omega
      have HVJ := Lib.hid (l22OkB_c oA k oc out wk HOLN.out (by omega) HX.out.rd (okN_okJD HOK.out) (okN_needs HOK.out))
      cases hv : validS out
      · have HF := Lib.hid (show readJS s = ([], false) by rw [hso, hv]; rfl)
        have HVV := Lib.hid (retb HVJ.out hv)
        clear hso hv
        go_wp2_with fail
        refine HVV.out.mono ?_
        rintro e w3 ⟨rfl, hb3⟩
        have hbw3 := hbw.trans (hb3.mono hbw.size)
        go_wp2_with fail
        refine bodyPost_ret (v := .tuple #[.slice none 0 0, .bool false]) (by simp only [results, Tryd.results40]; go_simp) rfl ⟨_, by rw [HF.out], by rw [HF.out]; exact JOwnS.none _ _, hbw3⟩
      · have HF := Lib.hid (show readJS s = (out, true) by rw [hso, hv, if_pos rfl])
        have HVV := Lib.hid (retb HVJ.out hv)
        clear hso hv
        go_wp2_with fail
        refine HVV.out.mono ?_
        rintro e w3 ⟨rfl, hb3⟩
        have hbw3 := hbw.trans (hb3.mono hbw.size)
        have HX3 := Lib.hid (HX.out.below hb3 (Nat.le_refl _))
        go_wp2_with fail
        refine bodyPost_ret (v := .tuple #[.slice oA k oc, .bool true]) (by simp only [results, Tryd.results40]; go_simp) rfl ⟨_, by rw [HF.out], by rw [HF.out]; simp only [HOLN.out]; exact ⟨_, _, (HX3.out.rise HX3.out.le (Nat.le_refl _)).lower hb1.size⟩, hbw3⟩

theorem ReadJobsI_c (s : ByteArray) (w : World) (hs : s.size ≤ 1048576) (ht : Tab w) :
    Calls Tryd.prog 41 #[.string s] w fun e w' => ∃ v, e = .returned (.tuple #[v, .bool (readJS s).2]) ∧ JOwnS w' w.heap.size w'.heap.size v (readJS s).1.length (readJS s).1 ∧ Below w.heap.size w w' := by
  rw [← read_eq]
  exact ReadJobsI0_c s w hs ht
end Go.Proofs.YtaebofpgdonnbaaDoor
