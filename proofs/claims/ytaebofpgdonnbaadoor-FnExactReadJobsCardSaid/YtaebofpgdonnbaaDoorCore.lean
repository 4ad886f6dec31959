/- Common words of this seat's walks: slices that are read; new memory; small lemmas. -/
import Derived.WalkKit
import Derived.ProofKit
import Derived.Lib.Hide
import Derived.Below
import Derived.Deep.QuietTactic
import Derived.BigQuiet
import Derived.WalkLawsBesides
import Derived.WalkSpells
import Derived.Handy
import Derived.StillTailTactics
import Derived.Deep.RegionHeld3
import Derived.Test.YtaebofpgdonnbaaDoorProg
set_option linter.unusedVariables false
set_option linter.unusedSimpArgs false
namespace Go.Proofs.YtaebofpgdonnbaaDoor
open Go.RowKit

theorem ret_int {k : IntKind} {a b : Int} (h : a = b) : Ending.returned (.int k a) = .returned (.int k b) := by rw [h]
theorem ret_bool {a b : Bool} (h : a = b) : Ending.returned (.bool a) = .returned (.bool b) := by rw [h]

theorem bcell {W w1 : World} {B : Nat} (hb : Below B W w1) : (∀ b o, b < B → w1.cell? ⟨b, o, none⟩ = W.cell? ⟨b, o, none⟩) ∧ (∀ b o, b < B → w1.frozen? ⟨b, o, none⟩ = W.frozen? ⟨b, o, none⟩) :=
  ⟨fun b o h => hb.cell (p := ⟨b, o, none⟩) h, fun b o h => hb.frozen (p := ⟨b, o, none⟩) h⟩

theorem below_drewN {B : Nat} {a w : World} (h : Below B a w) (n : Nat) : Below B a (w.drewN n) := ⟨h.os, h.tape, h.output, h.size, h.block⟩

theorem quiet_eq {P : Program} {f : FuncId} {args : Array Value} {w : World} {n : Nat} {v : Value}
    (h : Calls P f args (w.drewN n) fun e w' => e = .returned v ∧ w.drewN n = w') : Calls P f args (w.drewN n) fun e w'' => e = .returned v ∧ ∃ m, w'' = w.drewN m :=
  h.mono fun _ _ ⟨he, hm⟩ => ⟨he, n, hm.symm⟩
theorem retb {P : Program} {f : FuncId} {args : Array Value} {w : World} {R : World → Prop} {b c : Bool}
    (h : Calls P f args w fun e w' => e = .returned (.bool b) ∧ R w') (hb : b = c) : Calls P f args w fun e w' => e = .returned (.bool c) ∧ R w' := by subst hb; exact h
theorem still_tail {P : Program} {id : Nat} {Q : Exit → Act → World → Prop} {a : Act} {w : World} {l : List Oper} (n : Nat) (hm : P.follows .mixedOrders = true) (hB : Region.lexTailB .any l.toArray n = true)
    (h : wpStill P l.toArray w.drew (fun a' => wpList P l.toArray Q (l.drop n) a' w.drew) (l.take n) a) : (Code.region id l.toArray true).wp P Q a w :=
  wp_region_still_tail n hm hB h
theorem far {t n : Nat} (h : t < n) : t < n ∧ t ≤ n ∧ t < n + 1 ∧ t ≤ n + 1 ∧ t < n + 1 + 1 ∧ t ≤ n + 1 + 1 ∧ t < n + 1 + 1 + 1 ∧ t ≤ n + 1 + 1 + 1 ∧ t < n + 1 + 1 + 1 + 1 ∧ ¬ t = n ∧ ¬ n = t ∧ ¬ t = n + 1 ∧ ¬ t = n + 1 + 1 ∧ ¬ t = n + 1 + 1 + 1 := by omega
theorem gen_world {P : Program} {c : Code} {Q : Exit → Act → World → Prop} {a : Act} {w : World} (h : ∀ W, Hid (W = w) → c.wp P Q a W) : c.wp P Q a w := h w rfl
theorem old_of {W w' : World} (h : Below W.heap.size W w') : (∀ b o, b < W.heap.size → w'.cell? ⟨b, o, none⟩ = W.cell? ⟨b, o, none⟩) ∧ Below W.heap.size W w' := ⟨(bcell h).1, h⟩
/-- what a contract's world w1 says of the world W that it was called in, as rules for the walk -/
theorem rules {W w1 : World} (hb : Below W.heap.size W w1) :
    (∀ b o, b < W.heap.size → w1.cell? ⟨b, o, none⟩ = W.cell? ⟨b, o, none⟩) ∧ (∀ b o, b < W.heap.size → w1.frozen? ⟨b, o, none⟩ = W.frozen? ⟨b, o, none⟩) ∧
    (∀ b, b < W.heap.size → b < w1.heap.size) ∧ (∀ b, b ≤ W.heap.size → b ≤ w1.heap.size) ∧ (∀ b, b ≤ W.heap.size → b < w1.heap.size + 1) ∧ (∀ b, b ≤ W.heap.size → b ≤ w1.heap.size + 1) ∧
    (∀ b, b ≤ W.heap.size → b < w1.heap.size + 1 + 1) ∧ (∀ b, b ≤ W.heap.size → b ≤ w1.heap.size + 1 + 1) ∧ (∀ b, b ≤ W.heap.size → b < w1.heap.size + 1 + 1 + 1) ∧ (∀ b, b ≤ W.heap.size → b ≤ w1.heap.size + 1 + 1 + 1) ∧
    (∀ b, b < W.heap.size → ¬ b = w1.heap.size) ∧ (∀ b, b < W.heap.size → ¬ w1.heap.size = b) ∧ (∀ b, b ≤ W.heap.size → ¬ b = w1.heap.size + 1) ∧ (∀ b, b ≤ W.heap.size → ¬ b = w1.heap.size + 1 + 1) ∧ (∀ b, b ≤ W.heap.size → ¬ b = w1.heap.size + 1 + 1 + 1) := by
  have hz := hb.size
  exact ⟨(bcell hb).1, (bcell hb).2, fun b h => by omega, fun b h => by omega, fun b h => by omega, fun b h => by omega, fun b h => by omega, fun b h => by omega, fun b h => by omega, fun b h => by omega, fun b h => by omega, fun b h => by omega, fun b h => by omega, fun b h => by omega, fun b h => by omega⟩
theorem old_of' {W w' : World} (h : Below W.heap.size W w') : (∀ b o, b < W.heap.size → w'.cell? ⟨b, o, none⟩ = W.cell? ⟨b, o, none⟩) ∧ Below W.heap.size W w' ∧ W.heap.size ≤ w'.heap.size := ⟨(bcell h).1, h, h.size⟩
theorem size_drewN (w : World) (n : Nat) : (w.drewN n).heap.size = w.heap.size := rfl
theorem via {B Bk : Nat} {a X w1 : World} (h : Below Bk X w1) (hB : B ≤ Bk) (h2 : Below B a X) : Below B a w1 := h2.trans (h.mono hB)

/-- A slice value with the address A whose elements read as l (each element sz cells), in blocks below B. -/
def Rd {D : Type} (w : World) (B sz : Nat) (cells : D → List Value) (A : Option Addr) (l : List D) : Prop :=
  0 < l.length → ∃ b off, A = some ⟨b, off, none⟩ ∧ b < B ∧ ∀ i d, l[i]? = some d → ∀ j u, (cells d)[j]? = some u → w.cell? ⟨b, off + i * sz + j, none⟩ = some u

section
variable {D : Type} {w w' : World} {B sz : Nat} {cells : D → List Value} {A : Option Addr} {l : List D}
theorem Rd.keep (h : Rd w B sz cells A l) (hk : ∀ p : Addr, p.block < B → w'.cell? p = w.cell? p) : Rd w' B sz cells A l := fun hl => by
  obtain ⟨b, off, e, hb, hc⟩ := h hl
  exact ⟨b, off, e, hb, fun i d hi j u hj => by rw [hk _ hb]; exact hc i d hi j u hj⟩
theorem Rd.below (h : Rd w B sz cells A l) (hb : Below B w w') : Rd w' B sz cells A l := h.keep fun _ hp => hb.cell hp
theorem Rd.mono {B' : Nat} (h : Rd w B sz cells A l) (hB : B ≤ B') : Rd w B' sz cells A l := fun hl => by
  obtain ⟨b, off, e, hb, hc⟩ := h hl
  exact ⟨b, off, e, by omega, hc⟩
theorem Rd.none_ : Rd w B sz cells none ([] : List D) := fun h => by simp at h
theorem Rd.nil {A : Option Addr} : Rd w B sz cells A ([] : List D) := fun h => by simp at h
end

theorem flat_get {D : Type} (cells : D → List Value) (sz : Nat) (hsz : ∀ d, (cells d).length = sz) (l : List D) :
    ∀ (i : Nat) (d : D), l[i]? = some d → ∀ (j : Nat) (u : Value), (cells d)[j]? = some u → (l.flatMap cells)[i * sz + j]? = some u := by
  induction l with
  | nil => intro i d h; simp at h
  | cons x l ih =>
    intro i d h j u hu
    have hj : j < sz := by rw [← hsz d]; exact (List.getElem?_eq_some_iff.1 hu).1
    rw [List.flatMap_cons]
    cases i with
    | zero =>
      obtain rfl : x = d := by simpa using h
      rw [List.getElem?_append_left (by rw [hsz]; omega)]
      simpa using hu
    | succ i =>
      rw [List.getElem?_append_right (by rw [hsz, Nat.succ_mul]; omega), hsz]
      rw [show (i + 1) * sz + j - sz = i * sz + j by rw [Nat.succ_mul]; omega]
      exact ih i d (by simpa using h) j u hu

theorem flat_len {D : Type} (cells : D → List Value) (sz : Nat) (hsz : ∀ d, (cells d).length = sz) (l : List D) : (l.flatMap cells).length = l.length * sz := by
  induction l with
  | nil => simp
  | cons x l ih => rw [List.flatMap_cons, List.length_append, ih, hsz, List.length_cons, Nat.succ_mul, Nat.add_comm]

/-- A row of the call's own reads as the list that it holds. -/
theorem Rd.of_own {D : Type} {w : World} {base sz : Nat} {cells : D → List Value} {e : TypeId} {A : Option Addr} {n c : Nat} {l : List D} (hsz : ∀ d, (cells d).length = sz) (h0 : 0 < sz)
    (h : w.ownsRow base e sz (.slice A n c) n (l.flatMap cells)) : Rd w w.heap.size sz cells A l := fun hl => by
  have hlen := h.1
  rw [flat_len cells sz hsz] at hlen
  have hn : l.length = n := Nat.eq_of_mul_eq_mul_right h0 hlen
  rcases h.2 with ⟨hv, hn'⟩ | ⟨g, cap, cur, hv, _, hg, _⟩
  · omega
  · have hA : A = some ⟨g, 0, none⟩ := by injection hv
    subst hA
    refine ⟨g, 0, rfl, (Array.getElem?_eq_some_iff.1 hg).1, fun i d hi j u hj => ?_⟩
    have := h.cells (g := g) rfl (i * sz + j) u (flat_get cells sz hsz l i d hi j u hj)
    have hadd : (⟨g, 0, none⟩ : Addr).add (i * sz + j) = ⟨g, i * sz + j, none⟩ := by unfold Addr.add; split <;> simp_all
    rw [hadd] at this
    simpa using this

def icell (n : Int) : List Value := [.int .i64 n]
def scell (s : ByteArray) : List Value := [.string s]
theorem icell_len (n : Int) : (icell n).length = 1 := rfl
theorem scell_len (s : ByteArray) : (scell s).length = 1 := rfl
theorem icell_flat (l : List Int) : l.flatMap icell = l.map (Value.int .i64) := by
  induction l with
  | nil => rfl
  | cons x l ih => simp [icell, ih]
theorem scell_flat (l : List ByteArray) : l.flatMap scell = l.map Value.string := by
  induction l with
  | nil => rfl
  | cons x l ih => simp [scell, ih]

/-- integers: the cells one by one -/
theorem Rd.ints {w : World} {B : Nat} {A : Option Addr} {l : List Int} (h : Rd w B 1 icell A l) (hl : 0 < l.length) :
    ∃ b off, A = some ⟨b, off, none⟩ ∧ b < B ∧ ∀ i (hi : i < l.length), w.cell? ⟨b, off + i, none⟩ = some (.int .i64 l[i]) := by
  obtain ⟨b, off, e, hb, hc⟩ := h hl
  refine ⟨b, off, e, hb, fun i hi => ?_⟩
  have := hc i l[i] (List.getElem?_eq_getElem hi) 0 (.int .i64 l[i]) rfl
  simpa using this

end Go.Proofs.YtaebofpgdonnbaaDoor
