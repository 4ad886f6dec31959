/- Jobs of the call's own that it has appended one by one: each job's needs in a row of its own. -/
import Derived.Test.YtaebofpgdonnbaaDoorJobs2
import Derived.Test.YtaebofpgdonnbaaDoorMarkJob
set_option linter.unusedVariables false
set_option linter.unusedSimpArgs false
namespace Go.Proofs.YtaebofpgdonnbaaDoor
open Go.RowKit

theorem own_keep {w w' : World} {base : Nat} {e : TypeId} {size : Nat} {v : Value} {n : Nat} {xs : List Value} (h : w.ownsRow base e size v n xs) (hk : ∀ g, v.ownBlock = some g → w'.heap[g]? = w.heap[g]?) : w'.ownsRow base e size v n xs := by
  refine ⟨h.1, ?_⟩
  rcases h.2 with hn | ⟨g, cap, cur, rfl, hg, hgg, rest⟩
  · exact .inl hn
  · exact .inr ⟨g, cap, cur, rfl, hg, by rw [hk g rfl]; exact hgg, rest⟩
/-- job i as it lies in the row xs of v; its needs are the row V -/
structure JIn (w : World) (lo hi : Nat) (v : Value) (xs : List Value) (i : Nat) (d : JobD) (V : Value) : Prop where
  x0 : xs[i * 4]? = some (.string d.name)
  x1 : xs[i * 4 + 1]? = some (.int .i64 d.days)
  x2 : xs[i * 4 + 2]? = some (.int .i64 d.cost)
  x3 : xs[i * 4 + 3]? = some V
  own : w.ownsRow lo 2 1 V d.needs.length (d.needs.map (Value.int .i64))
  lt : ∀ q, V.ownBlock = some q → q < hi
  ne : ∀ q, V.ownBlock = some q → v.ownBlock ≠ some q
structure JX (w : World) (lo hi : Nat) (v : Value) (n : Nat) (l : List JobD) (xs : List Value) (V : Nat → Value) : Prop where
  le : hi ≤ w.heap.size
  len : l.length = n
  own : w.ownsRow lo 93 4 v n xs
  lt : ∀ q, v.ownBlock = some q → q < hi
  mono : ∀ i j, i < j → j < n → ∀ p q, (V i).ownBlock = some p → (V j).ownBlock = some q → p < q
  each : ∀ i d, l[i]? = some d → JIn w lo hi v xs i d (V i)
def JOwnS (w : World) (lo hi : Nat) (v : Value) (n : Nat) (l : List JobD) : Prop := ∃ xs V, JX w lo hi v n l xs V
theorem JX.keep {w w' : World} {lo hi : Nat} {v : Value} {n : Nat} {l : List JobD} {xs : List Value} {V : Nat → Value} (h : JX w lo hi v n l xs V) (hs : w.heap.size ≤ w'.heap.size) (hk : ∀ g, lo ≤ g → g < hi → w'.heap[g]? = w.heap[g]?) : JX w' lo hi v n l xs V :=
  ⟨Nat.le_trans h.le hs, h.len, own_keep h.own (fun g hg => hk g (h.own.lt g hg).1 (h.lt g hg)), h.lt, h.mono, fun i d hi' => by
    have j := h.each i d hi'
    exact ⟨j.x0, j.x1, j.x2, j.x3, own_keep j.own (fun g hg => hk g (j.own.lt g hg).1 (j.lt g hg)), j.lt, j.ne⟩⟩
theorem JX.below {w w' : World} {lo hi B : Nat} {v : Value} {n : Nat} {l : List JobD} {xs : List Value} {V : Nat → Value} (h : JX w lo hi v n l xs V) (hb : Below B w w') (hB : hi ≤ B) : JX w' lo hi v n l xs V :=
  h.keep hb.size fun g _ hg => hb.block g (by omega)
theorem JX.grown {w w' : World} {lo hi : Nat} {row : Option Nat} {v : Value} {n : Nat} {l : List JobD} {xs : List Value} {V : Nat → Value} (h : JX w lo hi v n l xs V) (hg : w.grownBy w' row) (hr : ∀ q, row = some q → hi ≤ q) : JX w' lo hi v n l xs V :=
  h.keep hg.size fun g _ hlt => hg.block g (Nat.lt_of_lt_of_le hlt h.le) (fun e => by have := hr g e.symm; omega)
theorem JX.rise {w : World} {lo hi hi' : Nat} {v : Value} {n : Nat} {l : List JobD} {xs : List Value} {V : Nat → Value} (h : JX w lo hi v n l xs V) (h1 : hi ≤ hi') (h2 : hi' ≤ w.heap.size) : JX w lo hi' v n l xs V :=
  ⟨h2, h.len, h.own, fun q hq => by have := h.lt q hq; omega, h.mono, fun i d hi' => by
    have j := h.each i d hi'
    exact ⟨j.x0, j.x1, j.x2, j.x3, j.own, fun q hq => by have := j.lt q hq; omega, j.ne⟩⟩
theorem JX.lower {w : World} {lo lo' hi : Nat} {v : Value} {n : Nat} {l : List JobD} {xs : List Value} {V : Nat → Value} (h : JX w lo hi v n l xs V) (h1 : lo' ≤ lo) : JX w lo' hi v n l xs V :=
  ⟨h.le, h.len, Go.Joins.ownsRow_le h.own h1, h.lt, h.mono, fun i d hi' => by
    have j := h.each i d hi'
    exact ⟨j.x0, j.x1, j.x2, j.x3, Go.Joins.ownsRow_le j.own h1, j.lt, j.ne⟩⟩
/-- block b is none of the rows -/
def Av (b : Nat) (v : Value) (n : Nat) (V : Nat → Value) : Prop := v.ownBlock ≠ some b ∧ ∀ i, i < n → (V i).ownBlock ≠ some b
theorem JX.but {w w' : World} {lo hi b : Nat} {v : Value} {n : Nat} {l : List JobD} {xs : List Value} {V : Nat → Value} (h : JX w lo hi v n l xs V) (ha : Av b v n V) (hg : w.grownBy w' (some b)) : JX w' lo hi v n l xs V :=
  ⟨Nat.le_trans h.le hg.size, h.len, own_ne h.own hg (fun q hq hc => ha.1 (by rw [hq, hc])), h.lt, h.mono, fun i d hi' => by
    have j := h.each i d hi'
    have hil : i < n := by rw [← h.len]; exact (List.getElem?_eq_some_iff.1 hi').1
    exact ⟨j.x0, j.x1, j.x2, j.x3, own_ne j.own hg (fun q hq hc => ha.2 i hil (by rw [hq, hc])), j.lt, j.ne⟩⟩
theorem Av.app {b s : Nat} {v v' U : Value} {n : Nat} {V : Nat → Value} (h : Av b v n V) (hv : v'.ownBlock = v.ownBlock ∨ v'.ownBlock = some s) (hs : b < s) (hU : ∀ q, U.ownBlock = some q → b < q) : Av b v' (n + 1) (fun j => if j = n then U else V j) := by
  refine ⟨fun hc => ?_, fun i hi hc => ?_⟩
  · rcases hv with hv | hv
    · exact h.1 (by rw [← hv]; exact hc)
    · rw [hv] at hc
      injection hc with hc
      omega
  · dsimp only at hc
    by_cases hin : i = n
    · rw [if_pos hin] at hc
      have := hU b hc
      omega
    · rw [if_neg hin] at hc
      exact h.2 i (by omega) hc
/-- no jobs yet -/
theorem JX.nil {w : World} {lo hi : Nat} {v : Value} (h : w.ownsRow lo 93 4 v 0 []) (hl : ∀ q, v.ownBlock = some q → q < hi) (hs : hi ≤ w.heap.size) : JX w lo hi v 0 [] [] (fun _ => .slice none 0 0) :=
  ⟨hs, rfl, h, hl, fun i j _ hj => absurd hj (Nat.not_lt_zero j), fun i d hi => by simp at hi⟩
theorem JX.rd {w : World} {lo hi : Nat} {A : Option Addr} {n c : Nat} {l : List JobD} {xs : List Value} {V : Nat → Value} (h : JX w lo hi (.slice A n c) n l xs V) : JRd w w.heap.size A l := fun hl => by
  have hn := h.len
  obtain ⟨g, rfl⟩ : ∃ g, A = some ⟨g, 0, none⟩ := by
    rcases h.own.2 with ⟨hv, h0⟩ | ⟨g, cap, cur, hv, _⟩
    · omega
    · exact ⟨g, by injection hv⟩
  have hg := (h.own.lt g rfl).2
  refine ⟨g, 0, rfl, hg, fun i d hi => ?_⟩
  have hil : i < n := by rw [← hn]; exact (List.getElem?_eq_some_iff.1 hi).1
  have j := h.each i d hi
  obtain ⟨An, cn, hV, _⟩ := own_form j.own
  simp only [Nat.zero_add]
  refine ⟨?_, ?_, ?_, An, cn, ?_, ?_⟩
  · rw [h.own.cellAt _ (by omega)]; exact j.x0
  · rw [h.own.cellAt _ (by omega)]; exact j.x1
  · rw [h.own.cellAt _ (by omega)]; exact j.x2
  · rw [h.own.cellAt _ (by omega), ← hV]; exact j.x3
  · have := j.own
    rw [hV] at this
    exact rd_own this
/-- a job appended; its needs lie in a row made from hi on -/
theorem JX.app {w w' : World} {lo hi : Nat} {v v' U : Value} {n : Nat} {l : List JobD} {xs : List Value} {V : Nat → Value} {d : JobD} (h : JX w lo hi v n l xs V) (hlo : lo ≤ hi) (hU : w.ownsRow hi 2 1 U d.needs.length (d.needs.map (Value.int .i64)))
    (h2 : w'.ownsRow lo 93 4 v' (n + 1) (xs ++ [.string d.name, .int .i64 d.days, .int .i64 d.cost, U])) (hg : w.grownBy w' v.ownBlock) (hv : v'.ownBlock = v.ownBlock ∨ v'.ownBlock = some w.heap.size) :
    JX w' lo w'.heap.size v' (n + 1) (l ++ [d]) (xs ++ [.string d.name, .int .i64 d.days, .int .i64 d.cost, U]) (fun j => if j = n then U else V j) := by
  have hxl : xs.length = n * 4 := h.own.1
  have hs := hg.size
  have hn := h.len
  have hle := h.le
  refine ⟨Nat.le_refl _, by rw [List.length_append, hn]; rfl, h2, fun q hq => (h2.lt q hq).2, fun i j hij hj p q hp hq => ?_, fun i d' hi' => ?_⟩
  · rw [if_neg (by omega)] at hp
    have hpi := get_ex l i (by omega)
    obtain ⟨di, hdi⟩ := hpi
    have j1 := (h.each i di hdi).lt p hp
    by_cases hjn : j = n
    · rw [if_pos hjn] at hq
      have := (hU.lt q hq).1
      omega
    · rw [if_neg hjn] at hq
      exact h.mono i j hij (by omega) p q hp hq
  · by_cases hin : i < n
    · rw [List.getElem?_append_left (by omega)] at hi'
      have j := h.each i d' hi'
      rw [if_neg (by omega)]
      refine ⟨?_, ?_, ?_, ?_, own_ne j.own hg (fun q hq hc => j.ne q hq hc.symm), fun q hq => by have := j.lt q hq; omega, fun q hq hc => ?_⟩
      · rw [List.getElem?_append_left (by omega)]; exact j.x0
      · rw [List.getElem?_append_left (by omega)]; exact j.x1
      · rw [List.getElem?_append_left (by omega)]; exact j.x2
      · rw [List.getElem?_append_left (by omega)]; exact j.x3
      · rcases hv with hv | hv
        · rw [hv] at hc; exact j.ne q hq hc
        · rw [hv] at hc
          injection hc with hc
          have := j.lt q hq
          omega
    · have hil := (List.getElem?_eq_some_iff.1 hi').1
      rw [List.length_append, hn] at hil
      obtain rfl : i = n := by simp at hil; omega
      rw [List.getElem?_append_right (by omega), hn, Nat.sub_self] at hi'
      injection hi' with hi'
      subst hi'
      rw [if_pos rfl]
      refine ⟨?_, ?_, ?_, ?_, own_ne (Go.Joins.ownsRow_le hU hlo) hg (fun q hq hc => ?_), fun q hq => by have := (hU.lt q hq).2; omega, fun q hq hc => ?_⟩
      · rw [List.getElem?_append_right (by omega), hxl, show i * 4 - i * 4 = 0 by omega]; rfl
      · rw [List.getElem?_append_right (by omega), hxl, show i * 4 + 1 - i * 4 = 1 by omega]; rfl
      · rw [List.getElem?_append_right (by omega), hxl, show i * 4 + 2 - i * 4 = 2 by omega]; rfl
      · rw [List.getElem?_append_right (by omega), hxl, show i * 4 + 3 - i * 4 = 3 by omega]; rfl
      · have h3 := (hU.lt q hq).1
        have h4 := h.lt q hc.symm
        omega
      · have h3 := hU.lt q hq
        rcases hv with hv | hv
        · rw [hv] at hc
          have h4 := h.lt q hc
          omega
        · rw [hv] at hc
          injection hc with hc
          omega
end Go.Proofs.YtaebofpgdonnbaaDoor
