/- Contracts: copies, differences, leading differences. -/
import Derived.Test.YtphckllloiogjaaInts
import Derived.Test.YtphckllloiogjaaFracScal
import Derived.Maps.AppendAt
import Derived.Deep.AppendLies
set_option linter.unusedVariables false
set_option linter.unusedSimpArgs false
namespace Go.Proofs.Ytphckllloiogjaa
open Go.RowKit

/-- differences of neighbours (they wrap, as Go's do) -/
def diffs (l : List Int) : List Int := List.zipWith (fun a b => wrap64 (b - a)) l l.tail
theorem diffs_len (l : List Int) : (diffs l).length = l.length - 1 := by simp [diffs]
theorem diffs_get (l : List Int) (k : Nat) (x y : Int) (hx : l[k]? = some x) (hy : l[k + 1]? = some y) : (diffs l)[k]? = some (wrap64 (y - x)) := by
  have : l.tail[k]? = some y := by rw [List.getElem?_tail]; exact hy
  simp [diffs, List.getElem?_zipWith, hx, this]

/-- an element appended to a row of the call's own: as a step of an operation, of a region that draws, of a list -/
theorem app_wp {P : Program} {o : Oper} {a : Act} {K : Act → World → Prop} {Q : Exit → Act → World → Prop} {W w : World} {t e : TypeId} {i0 : TypeInfo} {z : Value} {size bytes B n g : Nat} {v : Value} {xs news : List Value} (s x : Operand)
    (ho : o.op = .call { callee := .builtin .append, args := #[s, x], argTypes := #[t, t] })
    (ht : P.underlying t = some (.slice e)) (hi : P.info? e = some i0) (hz : i0.zero = some z) (hsize : i0.size = size) (hby : i0.bytes = bytes) (hzs : z.cells.size = size) (hsz : 0 < size) (hbytes : bytes ≤ 4096)
    (hs : a.eval s = v) (hown : w.ownsRow B e size v n xs) (hx : a.eval x = .slice (some ⟨g, 0, none⟩) 1 1) (hl : news.length = size) (hc : ∀ j u, news[j]? = some u → w.cell? ⟨g, j, none⟩ = some u) (h1 : ∀ u ∈ news, u.oneCell' = true) (hn : n ≤ 2097152) (hb : Below B W w) (hB : B ≤ W.heap.size)
    (h : ∀ v' w', w'.ownsRow B e size v' (n + 1) (xs ++ news) → w.grownBy w' v.ownBlock → (v'.ownBlock = v.ownBlock ∨ v'.ownBlock = some w.heap.size) → Below B W w' → K (a.put o.dst v') w') : o.wp P a w K Q := by
  have hsz' := hb.size
  have hbn : (n + 1) * bytes ≤ 140737488355328 := by
    have := Nat.mul_le_mul (show n + 1 ≤ 2097153 by omega) hbytes
    omega
  have hnews : ∀ j u, news[j]? = some u → w.cell? ((⟨g, 0, none⟩ : Addr).add j) = some u := fun j u hu => by
    have hadd : (⟨g, 0, none⟩ : Addr).add j = ⟨g, j, none⟩ := by unfold Addr.add; split <;> simp_all
    rw [hadd]; exact hc j u hu
  obtain ⟨v', w', hr, h2, h3, _, h5⟩ := run_append_own_at (P := P) w B t o.type e i0 z size bytes ht hi hz hsize hby hzs hsz v n xs hown ⟨g, 0, none⟩ 1 1 news (by simpa using hl) hnews h1 (by unfold maxLen; omega) hbn (by omega)
  unfold Oper.wp execOp
  simp only [ho, resolve, invoke, builtin, Sem.run_bind, Sem.run_pure, Result.andThen_ok, List.map_toArray, List.map_cons, List.map_nil, hs, hx, hr]
  exact h v' w' h2 h3 h5 (hb.grown h3 (by omega) (fun k hk => (hown.lt k hk).1))

theorem app_step {P : Program} {ops : Array Oper} {o : Oper} {a : Act} {K : Act → World → Prop} {Q : Exit → Act → World → Prop} {E : Prop} {W w : World} {t e : TypeId} {i0 : TypeInfo} {z : Value} {size bytes B n g : Nat} {v : Value} {xs news : List Value} (s x : Operand) (hgd : o.guard = none)
    (ho : o.op = .call { callee := .builtin .append, args := #[s, x], argTypes := #[t, t] })
    (ht : P.underlying t = some (.slice e)) (hi : P.info? e = some i0) (hz : i0.zero = some z) (hsize : i0.size = size) (hby : i0.bytes = bytes) (hzs : z.cells.size = size) (hsz : 0 < size) (hbytes : bytes ≤ 4096)
    (hs : a.eval s = v) (hown : w.ownsRow B e size v n xs) (hx : a.eval x = .slice (some ⟨g, 0, none⟩) 1 1) (hl : news.length = size) (hc : ∀ j u, news[j]? = some u → w.cell? ⟨g, j, none⟩ = some u) (h1 : ∀ u ∈ news, u.oneCell' = true) (hn : n ≤ 2097152) (hb : Below B W w) (hB : B ≤ W.heap.size)
    (h : ∀ v' w', w'.ownsRow B e size v' (n + 1) (xs ++ news) → w.grownBy w' v.ownBlock → (v'.ownBlock = v.ownBlock ∨ v'.ownBlock = some w.heap.size) → Below B W w' → K (a.put o.dst v') w') :
    if Region.wanted o (yielded ops a.tmps) = true then Oper.wp P o a w K Q else E := by
  have hw : Region.wanted o (yielded ops a.tmps) = true := by simp [Region.wanted, hgd]
  rw [if_pos hw]
  exact app_wp s x ho ht hi hz hsize hby hzs hsz hbytes hs hown hx hl hc h1 hn hb hB h

theorem app_list {P : Program} {ops : Array Oper} {rest : List Oper} {o : Oper} {a : Act} {Q : Exit → Act → World → Prop} {W w : World} {t e : TypeId} {i0 : TypeInfo} {z : Value} {size bytes B n g : Nat} {v : Value} {xs news : List Value} (s x : Operand) (hgd : o.guard = none)
    (ho : o.op = .call { callee := .builtin .append, args := #[s, x], argTypes := #[t, t] })
    (ht : P.underlying t = some (.slice e)) (hi : P.info? e = some i0) (hz : i0.zero = some z) (hsize : i0.size = size) (hby : i0.bytes = bytes) (hzs : z.cells.size = size) (hsz : 0 < size) (hbytes : bytes ≤ 4096)
    (hs : a.eval s = v) (hown : w.ownsRow B e size v n xs) (hx : a.eval x = .slice (some ⟨g, 0, none⟩) 1 1) (hl : news.length = size) (hc : ∀ j u, news[j]? = some u → w.cell? ⟨g, j, none⟩ = some u) (h1 : ∀ u ∈ news, u.oneCell' = true) (hn : n ≤ 2097152) (hb : Below B W w) (hB : B ≤ W.heap.size)
    (h : ∀ v' w', w'.ownsRow B e size v' (n + 1) (xs ++ news) → w.grownBy w' v.ownBlock → (v'.ownBlock = v.ownBlock ∨ v'.ownBlock = some w.heap.size) → Below B W w' → wpList P ops Q rest (a.put o.dst v') w') : wpList P ops Q (o :: rest) a w :=
  wpList_plain hgd fun _ hK => app_wp s x ho ht hi hz hsize hby hzs hsz hbytes hs hown hx hl hc h1 hn hb hB fun v' w' a b c d => hK _ _ (h v' w' a b c d)

theorem news1 {w : World} {g : Nat} {z : Value} (h : w.cell? ⟨g, 0, none⟩ = some z) : ∀ j u, [z][j]? = some u → w.cell? ⟨g, j, none⟩ = some u := fun j u hu => by
  match j, hu with
  | 0, hu => simp at hu; subst hu; exact h
  | j + 1, hu => simp at hu

set_option maxHeartbeats 400000 in
theorem lessBefore_c (A : Option Addr) (n c : Nat) (l : List Int) (w : World) (hn : l.length = n) (hm : n ≤ 1048576) (hr : Rd w w.heap.size 1 icell A l) :
    Calls Try.prog 76 #[.slice A n c] w fun e w' => ∃ v, e = .returned v ∧ w'.ownsRow w.heap.size 2 1 v (n - 1) ((diffs l).map (Value.int .i64)) ∧ Below w.heap.size w w' := by
  obtain ⟨i0, hi0, hz0, hz1, hz2⟩ := info_parts info_i64
  go_enter Try.func76, Try.ntmps76
  go_wp2
  go_loopw [3, 4] (fun o i wr => ∃ k : Nat, (k = 0 ∨ k + 1 ≤ n) ∧ i = .int .i64 ((k : Int) + 1) ∧ Below w.heap.size w wr ∧ wr.ownsRow w.heap.size 2 1 o k (((diffs l).take k).map (Value.int .i64))) (fun _ i _ => n - (intOf i).toNat)
  case atStart =>
    exact ⟨0, .inl rfl, rfl, by (repeat' (first | (with_reducible exact Below.refl _ _) | (with_reducible assumption) | (with_reducible refine below_drewN ?_ _) | (with_reducible refine Below.drew ?_) | (with_reducible refine Below.alloc ?_ ?_ _) | (with_reducible refine Below.setCell ?_ ?_ _) | (with_reducible refine via (by with_reducible assumption) ?_ ?_) | go_size)), by simpa using World.ownsRow_made w #[] 0 (Nat.le_refl _) (by simp [maxLen]) (by simp)⟩
  case round =>
    obtain ⟨k, hk, rfl, hb, hx⟩ := hrel
    have HX := Lib.hid hx; clear hx
    by_cases hlt : k + 1 < n
    · obtain ⟨b, off, rfl, hbl, hc⟩ := hr.ints' (by omega)
      obtain ⟨x, ex⟩ := get_ex l k (by omega)
      obtain ⟨y, ey⟩ := get_ex l (k + 1) (by omega)
      have g1 : w.cell? ⟨b, off + (k + 1), none⟩ = some (.int .i64 y) := hc (k + 1) y ey
      have g2 : w.cell? ⟨b, off + k, none⟩ = some (.int .i64 x) := hc k x ex
      have hbs := hb.size
      have HD := Lib.hid (diffs_get l k x y ex ey)
      clear hc ex ey
      have HN := Lib.hid hn; clear hn
      have p1 : (0 : Int) ≤ (k : Int) + 1 := by omega
      have p2 : k < n := by omega
      go_wp2
      have e1 : IntKind.i64.wrap (k : Int) = k := IntWalk.i64_in _ (by omega)
      have e3 : IntKind.i64.wrap (y - x) = wrap64 (y - x) := IntWalk.i64_left _
      have p3 : (0 : Int) ≤ (k : Int) := by omega
      have p4 : (k : Int) < (n : Int) := by omega
      have p5 : (k : Int) + 1 < (n : Int) := by omega
      go_region_held3 (fun w' => (∀ b o, b < w.heap.size → w'.cell? ⟨b, o, none⟩ = w.cell? ⟨b, o, none⟩) ∧ Below w.heap.size w w') (exact old_of (by (repeat' (first | (with_reducible exact Below.refl _ _) | (with_reducible assumption) | (with_reducible refine below_drewN ?_ _) | (with_reducible refine Below.drew ?_) | (with_reducible refine Below.alloc ?_ ?_ _) | (with_reducible refine Below.setCell ?_ ?_ _) | (with_reducible refine via (by with_reducible assumption) ?_ ?_) | go_size))))
        ((refine app_step (W := w) (z := .int .i64 0) (.tmp 12) (.tmp 23) (by rfl) (by rfl) Try.underlying32 hi0 hz0 hz1 hz2 rfl (by decide) (by decide) (by rfl) ((HX.out.alloc _).drew) (by rfl) (by rfl) (news1 (z := .int .i64 (wrap64 (y - x))) (by simp [go_sem])) (by simp [Value.oneCell']) (by omega) (by (repeat' (first | (with_reducible exact Below.refl _ _) | (with_reducible assumption) | (with_reducible refine below_drewN ?_ _) | (with_reducible refine Below.drew ?_) | (with_reducible refine Below.alloc ?_ ?_ _) | (with_reducible refine Below.setCell ?_ ?_ _) | (with_reducible refine via (by with_reducible assumption) ?_ ?_) | go_size))) (Nat.le_refl _) ?_; intro v' w1 hown1 _ _ hb1))
      go_wp2_with fail
      go_roundw
      case rel =>
        refine ⟨k + 1, by omega, by go_num, hb1, ?_⟩
        rw [take_snoc' _ _ _ HD.out]
        simpa using hown1
      case measure => simp [intOf]; omega
    · have hfin : wr.ownsRow w.heap.size 2 1 u3 (n - 1) ((diffs l).map (Value.int .i64)) := by
        have h1 := HX.out
        have hk' : k = n - 1 := by omega
        rw [List.take_of_length_le (by rw [diffs_len]; omega), hk'] at h1
        exact h1
      go_wp2
      go_ret
      exact ⟨_, rfl, hfin, hb⟩

end Go.Proofs.Ytphckllloiogjaa
