/- Contracts: the jobs read by the program. -/
import Derived.Test.YtaebofpgdonnbaaDoorReadJMath
import Derived.Test.YtaebofpgdonnbaaDoorTextLines
import Derived.Test.YtaebofpgdonnbaaDoorPlaceMap
import Derived.Test.YtaebofpgdonnbaaDoorJobRow
import Derived.Deep.DeepCutAuto
set_option linter.unusedVariables false
set_option linter.unusedSimpArgs false
namespace Go.Proofs.YtaebofpgdonnbaaDoor
open Go.RowKit

def knownR (out : List JobD) (r : List ByteArray) : Bool := r.all fun x => decide (0 ≤ lastJ out x out.length)
def needsR (out : List JobD) (r : List ByteArray) : List Int := r.map fun x => lastJ out x out.length
theorem needsR_len (out : List JobD) (r : List ByteArray) : (needsR out r).length = r.length := by rw [needsR, List.length_map]
theorem needsR_snoc (out : List JobD) (r : List ByteArray) (m : Nat) (x : ByteArray) (h : r[m]? = some x) : needsR out (r.take (m + 1)) = needsR out (r.take m) ++ [lastJ out x out.length] := by
  rw [take_snoc' r m x h]
  unfold needsR
  rw [List.map_append]
  rfl
theorem knownR_snoc {out : List JobD} {r : List ByteArray} {m : Nat} {x : ByteArray} (h : r[m]? = some x) (h1 : knownR out (r.take m) = true) (h2 : 0 ≤ lastJ out x out.length) : knownR out (r.take (m + 1)) = true := by
  rw [take_snoc' r m x h]
  unfold knownR at h1 ⊢
  rw [List.all_append, h1]
  simp [h2]
theorem knownR_no {out : List JobD} {r : List ByteArray} {m : Nat} {x : ByteArray} (h : r[m]? = some x) (h2 : ¬ 0 ≤ lastJ out x out.length) : knownR out r = false := by
  cases hk : knownR out r
  · rfl
  · exact absurd (of_decide_eq_true (List.all_eq_true.1 hk x (List.mem_of_getElem? h))) h2
theorem parseI_at {ln : ByteArray} {rest : List ByteArray} {out : List JobD} {x0 x1 x2 : ByteArray} {r : List ByteArray} (h : splL ln 32 = x0 :: x1 :: x2 :: r) : parseI (ln :: rest) out = if (knownR out r && ((rdec x1).2 && (rdec x2).2)) = true then parseI rest (out ++ [⟨x0, (rdec x1).1, (rdec x2).1, needsR out r⟩]) else none := by
  conv => lhs; unfold parseI
  rw [h]
  have e : knownW out (x0 :: x1 :: x2 :: r) = knownR out r := rfl
  have e2 : okW (x0 :: x1 :: x2 :: r) = ((rdec x1).2 && (rdec x2).2) := rfl
  rw [e, e2]
  by_cases hc : (knownR out r && ((rdec x1).2 && (rdec x2).2)) = true
  · rw [if_pos hc, if_pos]
    · rfl
    · rw [Bool.and_eq_true] at hc
      exact ⟨by simp, hc.1, hc.2⟩
  · rw [if_neg hc, if_neg]
    intro h3
    exact hc (by rw [Bool.and_eq_true]; exact ⟨h3.2.1, h3.2.2⟩)
theorem parseI_no {ln : ByteArray} {rest : List ByteArray} {out : List JobD} (h : ¬ 3 ≤ (splL ln 32).length) : parseI (ln :: rest) out = none := by
  unfold parseI
  rw [if_neg (fun h' => h h'.1)]
theorem readJI_no {s : ByteArray} (h : tlOk (splL s 10) = false) : readJI s = ([], false) := by unfold readJI; rw [h]; rfl
theorem readJI_none {s : ByteArray} (h : parseI (splL s 10).dropLast [] = none) : readJI s = ([], false) := by
  unfold readJI
  split
  · rw [h]
  · rfl
theorem readJI_some {s : ByteArray} {l : List JobD} (h0 : tlOk (splL s 10) = true) (h : parseI (splL s 10).dropLast [] = some l) : readJI s = if validS l = true ∧ ((jtextR l).toList == s.toList) = true then (l, true) else ([], false) := by
  unfold readJI
  rw [if_pos h0, h]
/-- words that the call has made, in their block, with its room -/
theorem words_in2 {w : World} {B : Nat} {v : Value} {l : List ByteArray} {n : Nat} (h : w.ownsRow B 9 1 v l.length (l.map Value.string)) (hn : l.length = n + 1) :
    ∃ g cap, v = .slice (some ⟨g, 0, none⟩) (n + 1) cap ∧ n + 1 ≤ cap ∧ B ≤ g ∧ g < w.heap.size ∧ ∀ i x, l[i]? = some x → w.cell? ⟨g, i, none⟩ = some (.string x) := by
  rw [hn] at h
  have hl := h.lt
  rcases h.2 with ⟨hv, h0⟩ | ⟨g, cap, cur, rfl, _, _, hcap, _⟩
  · omega
  · refine ⟨g, cap, rfl, hcap, (hl g rfl).1, (hl g rfl).2, fun i x hi => ?_⟩
    have hil : i < l.length := (List.getElem?_eq_some_iff.1 hi).1
    rw [h.cellAt i (by omega), List.getElem?_map, hi]
    rfl
/-- words[3:]: where it lies -/
theorem tail3_at (g q c : Nat) (hcap : q + 3 ≤ c) (hm : q ≤ 1048576) : ∃ off2 : Nat, (∀ W : World, Sem.run Tryd.prog (Instr.slice 22 (.slice (some ⟨g, 0, none⟩) (q + 3) c) (some (.int .i64 3)) none none) W = .ok (.slice (some ⟨g, off2, none⟩) q (c - 3)) W) ∧
    ∀ i, i < q → off2 + i = i + 3 := by
  by_cases h : c = 3
  · refine ⟨0, fun W => ?_, fun i hi => by omega⟩
    have h1 : q = 0 := by omega
    subst h1
    simp [go_sem, h]
  · refine ⟨3, fun W => ?_, fun i hi => by omega⟩
    have e1 : (3 : Int) ≤ ((q + 3 : Nat) : Int) := by omega
    have e2 : 3 ≤ q + 3 := by omega
    have e3 : ¬ c = 3 := h
    have e4 : (3 : Int) ≤ (q : Int) + 3 := by omega
    have e5 : q + 3 - 3 = q := by omega
    simp [go_sem, e1, e2, e3, e4]
theorem JOwnS.none (w : World) (lo : Nat) : JOwnS w lo w.heap.size (.slice none 0 0) 0 [] := ⟨_, _, JX.nil (World.ownsRow_nil _ _ _ _) (fun q hq => by cases hq) (Nat.le_refl _)⟩
theorem grown_set (w : World) (b o : Nat) (v : Value) : w.grownBy (w.setCell ⟨b, o, none⟩ v) (some b) :=
  ⟨rfl, rfl, rfl, by simp only [World.size_setCell]; exact Nat.le_refl _, fun k _ hk => Below.heap_setCell _ _ _ k (fun e => hk (by rw [e]))⟩
theorem keepJ {w w' : World} {o : Obj} {row : Option Nat} {J : Nat} (hg : (w.alloc o).grownBy w' row) (hJ : J < w.heap.size) (hne : ∀ p, row = some p → ¬ p = J) :
    (∀ q, w'.cell? ⟨J, q, none⟩ = w.cell? ⟨J, q, none⟩) ∧ (∀ q, w'.frozen? ⟨J, q, none⟩ = w.frozen? ⟨J, q, none⟩) ∧ J < w'.heap.size := by
  have h0 := (World.grownBy_alloc w o none)
  have h1 : w'.heap[J]? = w.heap[J]? := (hg.block J (Nat.lt_of_lt_of_le hJ h0.size) (fun e => hne J e.symm rfl)).trans (h0.block J hJ (by simp))
  exact ⟨fun q => World.cell?_of_block (w := w) (a := ⟨J, q, none⟩) h1, fun q => World.frozen?_of_block (w := w) (a := ⟨J, q, none⟩) h1, Nat.lt_of_lt_of_le hJ (Nat.le_trans h0.size hg.size)⟩
def okN (d : JobD) : Prop := d.name.size ≤ 1048576 ∧ d.needs.length ≤ 1048576
theorem okN_okJD {l : List JobD} (h : ∀ d ∈ l, okN d) : ∀ d ∈ l, okJD d := fun d hd => ⟨by have := (h d hd).1; unfold maxLen; omega, by have := (h d hd).2; unfold maxLen; omega⟩
theorem okN_needs {l : List JobD} (h : ∀ d ∈ l, okN d) : ∀ (i : Nat) (d : JobD), l[i]? = some d → d.needs.length ≤ 1048576 := fun _ d hd => (h d (List.mem_of_getElem? hd)).2
theorem jnews_one (a : ByteArray) (b c : Int) (A : Option Addr) (n k : Nat) : ∀ u ∈ [Value.string a, .int .i64 b, .int .i64 c, .slice A n k], u.oneCell' = true := by simp [Value.oneCell']

set_option maxRecDepth 100000 in
set_option maxHeartbeats 8000000 in
theorem ReadJobsI0_c (s : ByteArray) (w : World) (hs : s.size ≤ 1048576) (ht : Tab w) :
    Calls Tryd.prog 41 #[.string s] w fun e w' => ∃ v, e = .returned (.tuple #[v, .bool (readJI s).2]) ∧ JOwnS w' w.heap.size w'.heap.size v (readJI s).1.length (readJI s).1 ∧ Below w.heap.size w w' := by
  obtain ⟨i0, hi0, hy0, hy1, hy2⟩ := info_parts info_job
  obtain ⟨ii, hii, hyi0, hyi1, hyi2⟩ := info_parts info_i64
  have hmm := @run_makeMap Tryd.prog
  have HT := Lib.hid ht; clear ht
  have HTL := Lib.hid (textLines_c s w hs)
  have HSZ := Lib.hid (splL_size s 10)
  have hLL := splL_len s 10
  go_enter Tryd.func41, Tryd.ntmps41
  go_wp2_with fail
  refine HTL.out.mono ?_
  rintro e w1 ⟨v, rfl, hown, hb1⟩
  cases htl : tlOk (splL s 10)
  · have HF := Lib.hid (readJI_no htl)
    go_wp2_with fail
    refine bodyPost_ret (v := .tuple #[.slice none 0 0, .bool false]) (by simp only [results, Tryd.results41]; go_simp) rfl ⟨_, by rw [HF.out], by rw [HF.out]; exact JOwnS.none _ _, hb1⟩
  have ho := hown htl
  obtain ⟨LL, hLLe⟩ : ∃ LL, LL = (splL s 10).dropLast := ⟨_, rfl⟩
  have HNO := Lib.hid (fun (h : parseI LL [] = none) => readJI_none (s := s) (by rw [← hLLe]; exact h))
  have HSO := Lib.hid (fun l (h : parseI LL [] = some l) => readJI_some (s := s) htl (by rw [← hLLe]; exact h))
  have HLS := Lib.hid (show ∀ x ∈ LL, x.size ≤ 1048576 from fun x hx => by
    have := HSZ.out x (by rw [hLLe] at hx; exact List.dropLast_subset _ hx)
    omega)
  have hLn : LL.length ≤ 1048576 := by rw [hLLe, List.length_dropLast]; omega
  rw [← hLLe] at ho
  clear hLLe hown HSZ hLL HTL htl
  obtain ⟨n, hn⟩ : ∃ n, n = LL.length := ⟨_, rfl⟩
  rw [← hn] at ho hLn
  have HN := Lib.hid hn.symm; clear hn
  obtain ⟨A, c, rfl, hAb⟩ := own_form ho
  have HOL := Lib.hid ho; clear ho
  have hown0 : (w1.alloc (.cells #[] 93)).ownsRow w1.heap.size 93 4 (.slice (some ⟨w1.heap.size, 0, none⟩) 0 0) 0 [] := World.ownsRow_made w1 #[] 0 (Nat.le_refl _) (by simp [maxLen]) (by simp)
  have HOW0 := Lib.hid hown0; clear hown0
  have hmp0 := IMap.made (w1.alloc (.cells #[] 93)) (fun s => lastJ [] s 0) (fun _ => by show (-1 : Int) < 0; omega)
  have HMP0 := Lib.hid hmp0; clear hmp0
  go_wp2_with fail
  go_loopw [6, 31] (fun o i wr => ∃ (k : Nat) (out : List JobD), k ≤ n ∧ i = .int .i64 k ∧ parseI (LL.drop k) out = parseI LL [] ∧ (∀ d ∈ out, okN d) ∧ Below w1.heap.size w1 wr ∧ IMap wr (w1.heap.size + 1) k (fun s => lastJ out s k) ∧ ∃ xs V, JX wr w1.heap.size wr.heap.size o k out xs V ∧ Av (w1.heap.size + 1) o k V) (fun _ i _ => n - (intOf i).toNat)
  case atStart => exact ⟨0, [], Nat.zero_le _, rfl, rfl, fun d hd => (by cases hd), by (repeat' (first | (with_reducible exact Below.refl _ _) | (with_reducible assumption) | (with_reducible refine below_drewN ?_ _) | (with_reducible refine Below.drew ?_) | (with_reducible refine Below.alloc ?_ ?_ _) | (with_reducible refine Below.setCell ?_ ?_ _) | (with_reducible refine via (by with_reducible assumption) ?_ ?_) | go_size)), by first | exact HMP0.out | simpa using HMP0.out, _, _, JX.nil (HOW0.out.alloc _) (fun q hq => by simp only [Value.ownBlock, Option.some.injEq] at hq; simp [go_sem]; omega) (Nat.le_refl _), fun hq => by (simp only [Value.ownBlock, Option.some.injEq] at hq; omega), fun i hi => absurd hi (Nat.not_lt_zero i)⟩
  case round =>
    clear HOW0 HMP0
    obtain ⟨k, out, hk, rfl, hpa, hok, hb, hmap, xs, V, hx, hav⟩ := hrel
    have HAV := Lib.hid hav; clear hav
    obtain ⟨wk, rfl⟩ : ∃ w' : World, w' = wr := ⟨_, rfl⟩
    obtain ⟨oA, oc, rfl, _⟩ := own_form hx.own
    have hol := hx.len
    have HX := Lib.hid hx; clear hx
    have HPA := Lib.hid hpa; have HOK := Lib.hid hok; have HOLN := Lib.hid hol; have HM := Lib.hid hmap
    clear hpa hok hol hmap
    have hbs := hb.size
    have hmlt := HM.out.lt
    have hbw : Below w.heap.size w wk := hb1.trans (hb.mono hb1.size)
    by_cases hlt : k < n
    · obtain ⟨b, off, rfl, hbl, hc⟩ := (rd_ownS (own_call HOL.out hb)).strs (by rw [HN.out]; omega)
      obtain ⟨ln, hln⟩ := get_ex LL k (by rw [HN.out]; omega)
      have e1 := hc k ln hln
      have hls := HLS.out ln (List.mem_of_getElem? hln)
      have HD := Lib.hid (show LL.drop k = ln :: LL.drop (k + 1) by
        rw [List.drop_eq_getElem_cons (by rw [HN.out]; exact hlt)]
        congr 1
        have := List.getElem?_eq_some_iff.1 hln
        obtain ⟨_, h2⟩ := this
        exact h2)
      have p1 : (0 : Int) ≤ (k : Int) := by omega
      have p2 : (k : Int) < (n : Int) := by omega
      have hf := far hbl
      have HPR := Lib.hid (parts_c ln wk hls)
      have HWS := Lib.hid (splL_size ln 32)
      have HWL := Lib.hid (splL_len ln 32)
      clear hc hln
      go_wp2_with fail
      refine HPR.out.mono ?_
      rintro e w3 ⟨v3, rfl, hown3, hb3⟩
      have HX3 := Lib.hid (HX.out.below hb3 (Nat.le_refl _))
      have HM3 := Lib.hid (HM.out.below hb3 hmlt)
      have hbw3 : Below w.heap.size w w3 := hbw.trans (hb3.mono hbw.size)
      have hbb3 : Below w1.heap.size w1 w3 := hb.trans (hb3.mono hbs)
      by_cases hL : 3 ≤ (splL ln 32).length
      rotate_left
      · have HF := Lib.hid (HNO.out (by rw [← HPA.out, HD.out]; exact parseI_no hL))
        obtain ⟨A9, c9, rfl, _⟩ := own_form hown3
        have q1 : ((splL ln 32).length : Int) < 3 := by omega
        have q2 : (splL ln 32).length < 3 := by omega
        generalize (splL ln 32).length = kk at *
        go_wp2_with fail
        refine bodyPost_ret (v := .tuple #[.slice none 0 0, .bool false]) (by simp only [results, Tryd.results41]; go_simp) rfl ⟨_, by rw [HF.out], by rw [HF.out]; exact JOwnS.none _ _, hbw3⟩
      obtain ⟨q, hq⟩ : ∃ q, (splL ln 32).length = q + 3 := ⟨(splL ln 32).length - 3, by omega⟩
      have hqm : q ≤ 1048576 := by have := HWL.out.2; omega
      obtain ⟨g, cap, rfl, hcap, hgB, hgl, hcell⟩ := words_in2 hown3 (n := q + 2) hq
      obtain ⟨x0, x1, x2, r, hX⟩ := list3p hL
      rw [hX] at hcell hown3 hq
      have HRL := Lib.hid (show r.length = q by simp at hq; exact hq)
      have f0 := hcell 0 x0 rfl
      have f1 := hcell 1 x1 rfl
      have f2 := hcell 2 x2 rfl
      have HFR := Lib.hid (fun i x (hx : r[i]? = some x) => hcell (i + 3) x hx)
      have s0 := HWS.out x0 (by rw [hX]; simp)
      have s1 := HWS.out x1 (by rw [hX]; simp)
      have s2 := HWS.out x2 (by rw [hX]; simp)
      have HRS := Lib.hid (fun x (hx : x ∈ r) => show x.size ≤ 1048576 by have := HWS.out x (by rw [hX]; simp [hx]); omega)
      rcases ha : rdec x1 with ⟨a, oa⟩
      rcases hbq : rdec x2 with ⟨b2, ob⟩
      have hba := rdec_bd x1
      have hbb := rdec_bd x2
      rw [ha] at hba
      rw [hbq] at hbb
      have HPS := Lib.hid (show parseI LL [] = if (knownR out r && (oa && ob)) = true then parseI (LL.drop (k + 1)) (out ++ [⟨x0, a, b2, needsR out r⟩]) else none by
        rw [← HPA.out, HD.out, parseI_at hX, ha, hbq])
      have HA := Lib.hid (fun w' ht => ha ▸ ReadDecimal_c x1 w' (by unfold maxLen; omega) ht)
      have HB := Lib.hid (fun w' ht => hbq ▸ ReadDecimal_c x2 w' (by unfold maxLen; omega) ht)
      obtain ⟨off2, hsl, hoff⟩ := tail3_at g q cap hcap hqm
      have HOFF := Lib.hid hoff
      clear ha hbq hcell hown3 hL HWS HPR hq hoff HWL
      rw [show q + 2 + 1 = q + 3 by omega]
      have t1 : ¬ ((q + 3 : Nat) : Int) < 3 := by omega
      have t2 : ¬ q + 3 < 3 := by omega
      have t3 : (1 : Int) < ((q + 3 : Nat) : Int) := by omega
      have t4 : 1 < q + 3 := by omega
      have t5 : (2 : Int) < ((q + 3 : Nat) : Int) := by omega
      have t6 : 2 < q + 3 := by omega
      have t7 : (0 : Int) < ((q + 3 : Nat) : Int) := by omega
      have t8 : 0 < q + 3 := by omega
      go_wp2_with fail
      refine (HA.out _ (HT.out.below hbw3)).mono ?_
      rintro e w4 ⟨rfl, hb4⟩
      obtain ⟨hc, _⟩ := bcell hb4
      have HFR4 := Lib.hid (fun i x hx => (hc g (i + 3) hgl).trans (HFR.out i x hx))
      rw [← hc _ _ hgl] at f0 f1 f2
      have hg4 : g < w4.heap.size := Nat.lt_of_lt_of_le hgl hb4.size
      have HX4 := Lib.hid (HX3.out.below hb4 HX3.out.le)
      have HM4 := Lib.hid (HM3.out.below hb4 HM3.out.lt)
      have hbw4 : Below w.heap.size w w4 := hbw3.trans (hb4.mono hbw3.size)
      have hbb4 : Below w1.heap.size w1 w4 := hbb3.trans (hb4.mono hbb3.size)
      clear hc HX3 HFR HM3
      go_wp2_with fail
      refine (HB.out _ (HT.out.below hbw4)).mono ?_
      rintro e w5 ⟨rfl, hb5⟩
      obtain ⟨hc, _⟩ := bcell hb5
      have HFR5 := Lib.hid (fun i x hx => (hc g (i + 3) hg4).trans (HFR4.out i x hx))
      rw [← hc _ _ hg4] at f0 f1 f2
      have hg5 : g < w5.heap.size := Nat.lt_of_lt_of_le hg4 hb5.size
      have HX5 := Lib.hid (HX4.out.below hb5 HX4.out.le)
      have HM5 := Lib.hid (HM4.out.below hb5 HM4.out.lt)
      have hbw5 : Below w.heap.size w w5 := hbw4.trans (hb5.mono hbw4.size)
      have hbb5 : Below w1.heap.size w1 w5 := hbb4.trans (hb5.mono hbb4.size)
      have hbz5 : wk.heap.size ≤ w5.heap.size := Nat.le_trans hb3.size (Nat.le_trans hb4.size hb5.size)
      clear hc HX4 hb3 hb4 hb5 hbw3 hbw4 hbb3 hbb4 hg4 hgl HFR4 HM4
      have hfg := far hg5
      have hs1 := hbw5.size
      have hs2 := hbb5.size
      have HOKN := Lib.hid hyi0; clear hyi0
      go_wp2_with fail
      go_loopw [64] (fun x wi => ∃ (m : Nat) (U : Value), m ≤ q ∧ x = .int .i64 m ∧ knownR out (r.take m) = true ∧ wi.cell? ⟨w5.heap.size, 0, none⟩ = some (.string x0) ∧ wi.cell? ⟨w5.heap.size, 1, none⟩ = some (.int .i64 a) ∧ wi.cell? ⟨w5.heap.size, 2, none⟩ = some (.int .i64 b2) ∧ wi.cell? ⟨w5.heap.size, 3, none⟩ = some U ∧ (∀ o, wi.frozen? ⟨w5.heap.size, o, none⟩ = false) ∧ w5.heap.size < wi.heap.size ∧ Below w5.heap.size w5 wi ∧ wi.ownsRow w5.heap.size 2 1 U m ((needsR out (r.take m)).map (Value.int .i64)) ∧ ∀ p, U.ownBlock = some p → w5.heap.size < p) (fun x _ => q - (intOf x).toNat)
      case atStart => exact ⟨0, .slice none 0 0, Nat.zero_le _, rfl, rfl, by simp [go_sem], by simp [go_sem], by simp [go_sem], by simp [go_sem], fun o => by simp [go_sem], by simp [go_sem], by (repeat' (first | (with_reducible exact Below.refl _ _) | (with_reducible assumption) | (with_reducible refine below_drewN ?_ _) | (with_reducible refine Below.drew ?_) | (with_reducible refine Below.alloc ?_ ?_ _) | (with_reducible refine Below.setCell ?_ ?_ _) | (with_reducible refine via (by with_reducible assumption) ?_ ?_) | go_size)), World.ownsRow_nil _ _ _ _, fun p hp => by cases hp⟩
      case round =>
        obtain ⟨m, U, hm, rfl, hkn, c0, c1, c2, c3, hfz, hlt3, hb6, hU, hUlt⟩ := hrel
        obtain ⟨Un, Uc, rfl, _⟩ := own_form hU
        have HFZ := Lib.hid hfz; clear hfz
        have HU := Lib.hid hU; clear hU
        have HUL := Lib.hid hUlt; clear hUlt
        have HKN := Lib.hid hkn; clear hkn
        have hb6s := hb6.size
        have hbw6 : Below w.heap.size w wr := hbw5.trans (hb6.mono hs1)
        have hbb6 : Below w1.heap.size w1 wr := hbb5.trans (hb6.mono hs2)
        have HX6 := Lib.hid (HX5.out.below hb6 hbz5)
        have HM6 := Lib.hid (HM5.out.below hb6 HM5.out.lt)
        obtain ⟨hc6, hf6⟩ := bcell hb6
        have hg6 := Nat.lt_of_lt_of_le hg5 hb6s
        have hfg6 := far hg6
        have hfx6 := far hlt3
        by_cases hmq : m < q
        · obtain ⟨x, hx⟩ := get_ex r m (by rw [HRL.out]; exact hmq)
          have e2 := (hc6 g (m + 3) hg5).trans (HFR5.out m x hx)
          rw [← HOFF.out m hmq] at e2
          have hxs := HRS.out x (List.mem_of_getElem? hx)
          have hlook := HM6.out.look (s := x) (by unfold maxLen; omega)
          have u1 : (0 : Int) ≤ (m : Int) := by omega
          have u2 : (m : Int) < (q : Int) := by omega
          have hlb := lastJ_bd out x k
          by_cases h0 : 0 ≤ lastJ out x k
          · have HKN2 := Lib.hid (knownR_snoc hx HKN.out (by rw [HOLN.out]; exact h0))
            have HND := Lib.hid (needsR_snoc out r m x hx)
            rw [HOLN.out] at HND
            simp only [if_pos h0, decide_eq_true h0] at hlook
            generalize lastJ out x k = pl at *
            clear hc6 hf6 hx
            go_wp2_with (at_builtin; refine app_list (W := w5) (news := [.int .i64 pl]) (z := .int .i64 0) (.tmp 77) (.tmp 79) rfl rfl Tryd.underlying29 hii HOKN.out hyi1 hyi2 rfl (by decide) (by decide) rfl (HU.out.alloc _) rfl rfl (news1 (by simp [go_sem])) (by simp [Value.oneCell']) (by omega) (by (repeat' (first | (with_reducible exact Below.refl _ _) | (with_reducible assumption) | (with_reducible refine below_drewN ?_ _) | (with_reducible refine Below.drew ?_) | (with_reducible refine Below.alloc ?_ ?_ _) | (with_reducible refine Below.setCell ?_ ?_ _) | (with_reducible refine via (by with_reducible assumption) ?_ ?_) | go_size))) (Nat.le_refl _) ?_; intro v1 w2 hown1 hg1 hblk1 hb2; obtain ⟨U1, C1, rfl, _⟩ := own_form hown1; obtain ⟨hk1, hk2, hk3⟩ := keepJ hg1 hlt3 (fun p hp he => by have := HUL.out p hp; omega); have z3 := (hk2 3).trans (HFZ.out 3); have d3 := (hk1 3).trans c3; have HK1 := Lib.hid hk1; have HK2 := Lib.hid hk2; have HO1 := Lib.hid hown1; have HB1 := Lib.hid hblk1; clear hk1 hk2 hown1 hg1 hblk1)
            have HUL1 := Lib.hid (show ∀ p, (Value.slice U1 (m + 1) C1).ownBlock = some p → w5.heap.size < p from fun p hp => by
              rcases HB1.out with h | h
              · rw [h] at hp; exact HUL.out p hp
              · rw [h] at hp
                injection hp with hp
                simp [go_sem] at hp
                omega)
            have ne : ∀ o', 3 ≠ o' → (⟨w5.heap.size, 3, none⟩ : Addr) ≠ ⟨w5.heap.size, o', none⟩ := fun o' h e => h (by injection e)
            (first | (refine ⟨?_, ?_⟩; rotate_left; (first | (simp [intOf]; done) | (simp [intOf]; omega)); (repeat apply Exists.intro); refine ⟨?_, rfl⟩; exact ⟨m + 1, .slice U1 (m + 1) C1, by omega, by go_num, HKN2.out, by rw [World.cell?_setCell_other (h := ne 0 (by decide)), HK1.out]; exact c0, by rw [World.cell?_setCell_other (h := ne 1 (by decide)), HK1.out]; exact c1, by rw [World.cell?_setCell_other (h := ne 2 (by decide)), HK1.out]; exact c2, by rw [World.cell?_setCell_same (h := d3)], fun o => by rw [World.frozen?_setCell, HK2.out]; exact HFZ.out o, by simp only [World.size_setCell]; exact hk3, hb2.setCell (Nat.le_refl _) _, by rw [HND.out, List.map_append]; exact own_ne HO1.out (grown_set w2 w5.heap.size 3 _) (fun p hp hc => by have := HUL1.out p hp; simp only [Option.some.injEq] at hc; omega), HUL1.out⟩) | exact ⟨⟨m + 1, .slice U1 (m + 1) C1, by omega, by go_num, HKN2.out, by rw [World.cell?_setCell_other (h := ne 0 (by decide)), HK1.out]; exact c0, by rw [World.cell?_setCell_other (h := ne 1 (by decide)), HK1.out]; exact c1, by rw [World.cell?_setCell_other (h := ne 2 (by decide)), HK1.out]; exact c2, by rw [World.cell?_setCell_same (h := d3)], fun o => by rw [World.frozen?_setCell, HK2.out]; exact HFZ.out o, by simp only [World.size_setCell]; exact hk3, hb2.setCell (Nat.le_refl _) _, by rw [HND.out, List.map_append]; exact own_ne HO1.out (grown_set w2 w5.heap.size 3 _) (fun p hp hc => by have := HUL1.out p hp; simp only [Option.some.injEq] at hc; omega), HUL1.out⟩, by first | (simp [intOf]; done) | (simp [intOf]; omega)⟩)
          · have HF := Lib.hid (HNO.out (by rw [HPS.out, knownR_no hx (by rw [HOLN.out]; exact h0)]; rfl))
            simp only [if_neg h0, decide_eq_false h0] at hlook
            clear hc6 hf6 hx
            go_wp2_with fail
            refine bodyPost_ret (v := .tuple #[.slice none 0 0, .bool false]) (by simp only [results, Tryd.results41]; go_simp) rfl ⟨_, by rw [HF.out], by rw [HF.out]; exact JOwnS.none _ _, hbw6⟩
        · obtain rfl : m = q := by omega
          have htk : r.take m = r := List.take_of_length_le (by rw [HRL.out]; exact Nat.le_refl _)
          have HKR := Lib.hid (show knownR out r = true by have := HKN.out; rwa [htk] at this)
          have HNL := Lib.hid (show (needsR out r).length = m by rw [needsR_len, HRL.out])
          have hU2 := HU.out
          rw [htk] at hU2
          have HU2 := Lib.hid hU2
          clear htk hU2 HU HKN hc6 hf6 hsl
          cases oa
          · have HF := Lib.hid (HNO.out (by rw [HPS.out]; simp))
            go_wp2_with fail
            refine bodyPost_ret (v := .tuple #[.slice none 0 0, .bool false]) (by simp only [results, Tryd.results41]; go_simp) rfl ⟨_, by rw [HF.out], by rw [HF.out]; exact JOwnS.none _ _, hbw6⟩
          cases ob
          · have HF := Lib.hid (HNO.out (by rw [HPS.out]; simp))
            go_wp2_with fail
            refine bodyPost_ret (v := .tuple #[.slice none 0 0, .bool false]) (by simp only [results, Tryd.results41]; go_simp) rfl ⟨_, by rw [HF.out], by rw [HF.out]; exact JOwnS.none _ _, hbw6⟩
          have HPA2 := Lib.hid (show parseI (LL.drop (k + 1)) (out ++ [⟨x0, a, b2, needsR out r⟩]) = parseI LL [] by rw [HPS.out, HKR.out]; simp)
          have HOK2 := Lib.hid (show ∀ d ∈ out ++ [(⟨x0, a, b2, needsR out r⟩ : JobD)], okN d from fun d hd => by
            rw [List.mem_append] at hd
            rcases hd with hd | hd
            · exact HOK.out d hd
            · simp at hd
              subst hd
              exact ⟨by show x0.size ≤ _; omega, by show (needsR out r).length ≤ _; rw [HNL.out]; exact hqm⟩)
          have HLS2 := Lib.hid (show ∀ t, lastJ (out ++ [(⟨x0, a, b2, needsR out r⟩ : JobD)]) t (k + 1) = if (x0.toList == t.toList) = true then (k : Int) else lastJ out t k from fun t => by
            have := lastJ_snoc (out := out) (d := ⟨x0, a, b2, needsR out r⟩) t
            rw [HOLN.out] at this
            exact this)
          have hJm : ¬ w5.heap.size = w1.heap.size + 1 := by omega
          go_upto_region 25 with (at_mapUpdate; refine wpList_putI _ rfl _ _ _ rfl (w1.heap.size + 1) k (fun s => lastJ out s k) x0 (k : Int) HM6.out (by omega) (by unfold maxLen; omega) ⟨by omega, by omega⟩ rfl rfl rfl ?_; intro w7 hM7 hg7)
          have hk7 : ∀ o, w7.cell? ⟨w5.heap.size, o, none⟩ = wr.cell? ⟨w5.heap.size, o, none⟩ := fun o => hg7.cell_far ⟨w5.heap.size, o, none⟩ hlt3 (by simp; exact hJm)
          rw [← hk7] at c0 c1 c2 c3
          have hs7 := hg7.size
          have hl7 : w5.heap.size < w7.heap.size := Nat.lt_of_lt_of_le hlt3 hs7
          have hfx7 := far hl7
          have HX7 := Lib.hid (HX6.out.but HAV.out hg7)
          have hb7 : Below w1.heap.size w1 w7 := hbb6.grown hg7 (by omega) (fun q hq => by injection hq with hq; omega)
          have HU7 := Lib.hid (own_ne HU2.out hg7 (fun q hq hc => by have := HUL.out q hq; simp only [Option.some.injEq] at hc; omega))
          have HM7 := Lib.hid hM7
          have hs17 := hb7.size
          clear hk7 hM7 hg7
          go_wp2_with (at_builtin; refine app_list (W := w1) (news := [.string x0, .int .i64 a, .int .i64 b2, .slice Un m Uc]) (z := .agg #[.string ByteArray.empty, .int .i64 0, .int .i64 0, .slice none 0 0]) (.tmp 93) (.tmp 95) rfl rfl Tryd.underlying56 hi0 hy0 hy1 hy2 rfl (by decide) (by decide) rfl (HX7.out.own.alloc _) rfl rfl (news4 (by simp [go_sem]) (by simp [go_sem]) (by simp [go_sem]) (by simp [go_sem])) (jnews_one _ _ _ _ _ _) (by omega) (by (repeat' (first | (with_reducible exact Below.refl _ _) | (with_reducible assumption) | (with_reducible refine below_drewN ?_ _) | (with_reducible refine Below.drew ?_) | (with_reducible refine Below.alloc ?_ ?_ _) | (with_reducible refine Below.setCell ?_ ?_ _) | (with_reducible refine via (by with_reducible assumption) ?_ ?_) | go_size))) (Nat.le_refl _) ?_; intro v8 w8 hown8 hg8 hblk8 hb8)
          have hXA := JX.app (d := ⟨x0, a, b2, needsR out r⟩) (HX7.out.grown (World.grownBy_alloc w7 _ none) (fun q hq => by cases hq)) hbs (by show World.ownsRow _ _ _ _ _ (needsR out r).length _; rw [HNL.out]; exact Go.Joins.ownsRow_le (HU7.out.alloc _) hbz5) hown8 hg8 hblk8
          have hMA := ((HM7.out.grown (World.grownBy_alloc w7 _ none) (by simp)).grown hg8 (fun h => HAV.out.1 h.symm)).congr HLS2.out
          have hAA := Av.app HAV.out hblk8 (by simp [go_sem]; omega) (fun q hq => by have := HUL.out q hq; omega)
          have HXA := Lib.hid hXA; have HMA := Lib.hid hMA; have HAA := Lib.hid hAA
          clear hXA hMA hAA hown8 hg8 hblk8
          (first | (refine ⟨?_, ?_⟩; rotate_left; (first | (simp [intOf]; done) | (simp [intOf]; omega)); (repeat apply Exists.intro); refine ⟨?_, rfl⟩; exact ⟨k + 1, out ++ [⟨x0, a, b2, needsR out r⟩], by omega, by go_num, HPA2.out, HOK2.out, hb8, HMA.out, _, _, HXA.out, HAA.out⟩) | exact ⟨⟨k + 1, out ++ [⟨x0, a, b2, needsR out r⟩], by omega, by go_num, HPA2.out, HOK2.out, hb8, HMA.out, _, _, HXA.out, HAA.out⟩, by first | (simp [intOf]; done) | (simp [intOf]; omega)⟩)
    · obtain rfl : k = n := by omega
      have hpa := HPA.out
      rw [List.drop_eq_nil_of_le (by rw [HN.out]; exact Nat.le_refl _)] at hpa
      have hso := HSO.out out (by rw [← hpa]; rfl)
      have HVJ := Lib.hid (ValidJobsI_c oA k oc out wk HOLN.out (by omega) HX.out.rd (okN_okJD HOK.out) (okN_needs HOK.out))
      cases hv : validS out
      · have HF := Lib.hid (show readJI s = ([], false) by rw [hso, hv, if_neg (fun h => by cases h.1)])
        have HVV := Lib.hid (retb HVJ.out hv)
        clear hso hv
        go_wp2_with fail
        refine HVV.out.mono ?_
        rintro e w3 ⟨rfl, hb3⟩
        have hbw3 := hbw.trans (hb3.mono hbw.size)
        go_wp2_with fail
        refine bodyPost_ret (v := .tuple #[.slice none 0 0, .bool false]) (by simp only [results, Tryd.results41]; go_simp) rfl ⟨_, by rw [HF.out], by rw [HF.out]; exact JOwnS.none _ _, hbw3⟩
      have HVV := Lib.hid (retb HVJ.out hv)
      have HPT := Lib.hid (fun w' (hb' : Below wk.heap.size wk w') => JobsTextI_c oA k oc out w' HOLN.out (by omega) ((HX.out.below hb' (Nat.le_refl _)).rd) (okN_okJD HOK.out) (okN_needs HOK.out) (HT.out.below (hbw.trans (hb'.mono hbw.size))))
      cases hq : ((jtextR out).toList == s.toList)
      · have HF := Lib.hid (show readJI s = ([], false) by rw [hso, hq, if_neg (fun h => by cases h.2)])
        generalize jtextR out = PT at *
        have q2 : (PT.toList != s.toList) = true := by unfold bne; rw [hq]; rfl
        clear hso hv
        go_wp2_with fail
        refine HVV.out.mono ?_
        rintro e w3 ⟨rfl, hb3⟩
        have hbw3 := hbw.trans (hb3.mono hbw.size)
        go_wp2_with fail
        refine (HPT.out w3 hb3).mono ?_
        rintro e w4 ⟨rfl, hb4⟩
        have hbw4 := hbw3.trans (hb4.mono hbw3.size)
        go_wp2_with fail
        refine bodyPost_ret (v := .tuple #[.slice none 0 0, .bool false]) (by simp only [results, Tryd.results41]; go_simp) rfl ⟨_, by rw [HF.out], by rw [HF.out]; exact JOwnS.none _ _, hbw4⟩
      · have HF := Lib.hid (show readJI s = (out, true) by rw [hso, hq, hv, if_pos ⟨rfl, rfl⟩])
        generalize jtextR out = PT at *
        have q2 : (PT.toList != s.toList) = false := by unfold bne; rw [hq]; rfl
        have q5 : PT.toList = s.toList := eq_of_beq hq
        clear hso hv
        go_wp2_with fail
        refine HVV.out.mono ?_
        rintro e w3 ⟨rfl, hb3⟩
        have hbw3 := hbw.trans (hb3.mono hbw.size)
        have HX3 := Lib.hid (HX.out.below hb3 (Nat.le_refl _))
        go_wp2_with fail
        refine (HPT.out w3 hb3).mono ?_
        rintro e w4 ⟨rfl, hb4⟩
        have hbw4 := hbw3.trans (hb4.mono hbw3.size)
        have HX4 := Lib.hid (HX3.out.below hb4 hb3.size)
        go_wp2_with fail
        refine bodyPost_ret (v := .tuple #[.slice oA k oc, .bool true]) (by simp only [results, Tryd.results41]; go_simp) rfl ⟨_, by rw [HF.out], by rw [HF.out]; simp only [HOLN.out]; exact ⟨_, _, (HX4.out.rise HX4.out.le (Nat.le_refl _)).lower hb1.size⟩, hbw4⟩
end Go.Proofs.YtaebofpgdonnbaaDoor
