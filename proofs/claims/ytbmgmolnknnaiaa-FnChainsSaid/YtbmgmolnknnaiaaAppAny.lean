/- append of whatever slice to a row of the call's own: nil sources too. -/
import Derived.Test.YtbmgmolnknnaiaaPairs
import Derived.Deep.AppendLies
import Derived.Deep.Upon
namespace Go.Proofs.Ytbmgmolnknnaiaa
open Go.RowKit

/-- The slice x yields m elements, the cells 'news'. -/
def SrcC (w : World) (size : Nat) (x : Value) (m : Nat) (news : List Value) : Prop :=
  news.length = m * size ∧ (∀ u ∈ news, u.oneCell' = true) ∧ ((∃ ad c, x = .slice (some ad) m c ∧ ∀ j u, news[j]? = some u → w.cell? (ad.add j) = some u) ∨ (m = 0 ∧ ∃ c, x = .slice none 0 c))
section
variable {P : Program} (w : World)
theorem run_append_srcC (t ty : TypeId) (base : Nat) (e : TypeId) (i : TypeInfo) (z : Value) (size bytes : Nat) (ht : P.underlying t = some (.slice e)) (hi : P.info? e = some i) (hz : i.zero = some z)
    (hsize : i.size = size) (hby : i.bytes = bytes) (hzs : z.cells.size = size) (hsz : 0 < size)
    (v : Value) (n : Nat) (xs : List Value) (hown : w.ownsRow base e size v n xs) (x : Value) (m : Nat) (news : List Value) (hx : SrcC w size x m news)
    (h63 : n + m ≤ maxLen) (hbytes : (n + m) * bytes ≤ 140737488355328) (hbase : base ≤ w.heap.size) :
    ∃ v' w', (Builtin.append_ #[t, t] ty #[v, x]).run P w = .ok v' w' ∧ w'.ownsRow base e size v' (n + m) (xs ++ news) ∧ w.grownBy w' v.ownBlock := by
  obtain ⟨hl, h1, ⟨ad, c, rfl, hc⟩ | ⟨rfl, c, rfl⟩⟩ := hx
  · obtain ⟨v', w', hr, h2, h3, _⟩ := run_append_own (P := P) w base t ty e i z size bytes ht hi hz hsize hby hzs hsz v n xs hown ad m c news hl hc h1 h63 hbytes hbase
    exact ⟨v', w', hr, h2, h3⟩
  · obtain rfl : news = [] := by simpa using hl
    have hf : ∃ a cap, v = .slice a n cap ∧ n ≤ cap := by
      rcases hown.2 with ⟨rfl, rfl⟩ | ⟨g, cap, cur, rfl, _, _, h, _⟩
      · exact ⟨_, _, rfl, Nat.le_refl _⟩
      · exact ⟨_, _, rfl, h⟩
    obtain ⟨a, cap, rfl, hle⟩ := hf
    refine ⟨_, w, run_append_nothing (P := P) w t t ty e i ht hi a n cap hle _ (Src.ofNil (P := P) w ht c), by simpa using hown, World.grownBy.refl _ _⟩
theorem wp_append_srcC {o : Oper} {a : Act} {K : Act → World → Prop} {Q : Exit → Act → World → Prop} (s x : Operand) (t : TypeId)
    (ho : o.op = .call { callee := .builtin .append, args := #[s, x], argTypes := #[t, t] })
    (base : Nat) (e : TypeId) (i : TypeInfo) (z : Value) (size bytes : Nat) (ht : P.underlying t = some (.slice e)) (hi : P.info? e = some i) (hz : i.zero = some z)
    (hsize : i.size = size) (hby : i.bytes = bytes) (hzs : z.cells.size = size) (hsz : 0 < size)
    (v : Value) (n : Nat) (xs : List Value) (hs : a.eval s = v) (hown : w.ownsRow base e size v n xs)
    (y : Value) (m : Nat) (news : List Value) (hx : a.eval x = y) (hy : SrcC w size y m news)
    (h63 : n + m ≤ maxLen) (hbytes : (n + m) * bytes ≤ 140737488355328) (hbase : base ≤ w.heap.size)
    (h : ∀ v' w', w'.ownsRow base e size v' (n + m) (xs ++ news) → w.grownBy w' v.ownBlock → K (a.put o.dst v') w') : o.wp P a w K Q := by
  obtain ⟨v', w', hr, h2, h3⟩ := run_append_srcC (P := P) w t o.type base e i z size bytes ht hi hz hsize hby hzs hsz v n xs hown y m news hy h63 hbytes hbase
  unfold Oper.wp execOp
  simp only [ho, resolve, invoke, builtin, Sem.run_bind, Sem.run_pure, Result.andThen_ok, List.map_toArray, List.map_cons, List.map_nil, hs, hx, hr]
  exact h v' w' h2 h3
theorem wpList_append_srcC {ops : Array Oper} {rest : List Oper} {o : Oper} {a : Act} {Q : Exit → Act → World → Prop} (hgd : o.guard = none) (s x : Operand) (t : TypeId)
    (ho : o.op = .call { callee := .builtin .append, args := #[s, x], argTypes := #[t, t] })
    (base : Nat) (e : TypeId) (i : TypeInfo) (z : Value) (size bytes : Nat) (ht : P.underlying t = some (.slice e)) (hi : P.info? e = some i) (hz : i.zero = some z)
    (hsize : i.size = size) (hby : i.bytes = bytes) (hzs : z.cells.size = size) (hsz : 0 < size)
    (v : Value) (n : Nat) (xs : List Value) (hs : a.eval s = v) (hown : w.ownsRow base e size v n xs)
    (y : Value) (m : Nat) (news : List Value) (hx : a.eval x = y) (hy : SrcC w size y m news)
    (h63 : n + m ≤ maxLen) (hbytes : (n + m) * bytes ≤ 140737488355328) (hbase : base ≤ w.heap.size)
    (h : ∀ v' w', w'.ownsRow base e size v' (n + m) (xs ++ news) → w.grownBy w' v.ownBlock → wpList P ops Q rest (a.put o.dst v') w') : wpList P ops Q (o :: rest) a w :=
  wpList_plain hgd fun _ hK => wp_append_srcC w s x t ho base e i z size bytes ht hi hz hsize hby hzs hsz v n xs hs hown y m news hx hy h63 hbytes hbase fun v' w' h2 h3 => hK _ _ (h v' w' h2 h3)
theorem step_append_srcC {ops : Array Oper} {o : Oper} {a : Act} {K : Act → World → Prop} {Q : Exit → Act → World → Prop} {E : Prop} (hgd : o.guard = none) (s x : Operand) (t : TypeId)
    (ho : o.op = .call { callee := .builtin .append, args := #[s, x], argTypes := #[t, t] })
    (base : Nat) (e : TypeId) (i : TypeInfo) (z : Value) (size bytes : Nat) (ht : P.underlying t = some (.slice e)) (hi : P.info? e = some i) (hz : i.zero = some z)
    (hsize : i.size = size) (hby : i.bytes = bytes) (hzs : z.cells.size = size) (hsz : 0 < size)
    (v : Value) (n : Nat) (xs : List Value) (hs : a.eval s = v) (hown : w.ownsRow base e size v n xs)
    (y : Value) (m : Nat) (news : List Value) (hx : a.eval x = y) (hy : SrcC w size y m news)
    (h63 : n + m ≤ maxLen) (hbytes : (n + m) * bytes ≤ 140737488355328) (hbase : base ≤ w.heap.size)
    (h : ∀ v' w', w'.ownsRow base e size v' (n + m) (xs ++ news) → w.grownBy w' v.ownBlock → K (a.put o.dst v') w') :
    if Region.wanted o (yielded ops a.tmps) = true then Oper.wp P o a w K Q else E := by
  have hw : Region.wanted o (yielded ops a.tmps) = true := by simp [Region.wanted, hgd]
  rw [if_pos hw]
  exact wp_append_srcC w s x t ho base e i z size bytes ht hi hz hsize hby hzs hsz v n xs hs hown y m news hx hy h63 hbytes hbase h
end
theorem Ints.src {w : World} {v : Value} {xs : List Int} (h : Ints w v xs) : SrcC w 1 v xs.length (xs.map (Value.int .i64)) := by
  obtain ⟨_, a, cap, rfl, _, _, hat⟩ := h
  refine ⟨by simp, by intro u hu; simp at hu; obtain ⟨x, _, rfl⟩ := hu; rfl, ?_⟩
  cases a with
  | none =>
    rcases hat with rfl | ⟨b, off, e, _⟩
    · exact .inr ⟨rfl, _, rfl⟩
    · cases e
  | some ad =>
    refine .inl ⟨ad, cap, rfl, fun j u hu => ?_⟩
    rcases hat with rfl | ⟨b, off, e, hc⟩
    · simp at hu
    · cases e
      have hj : j < xs.length := by
        rcases Nat.lt_or_ge j xs.length with h | h
        · exact h
        · rw [List.getElem?_eq_none (by simpa using h)] at hu; cases hu
      have := hc j hj
      rw [List.getElem?_map, List.getElem?_eq_getElem hj] at hu
      simp at hu
      rw [gi_lt hj, hu] at this
      by_cases h0 : j = 0
      · subst h0; simpa [Addr.add] using this
      · simpa [Addr.add, h0] using this
theorem Pairs.src {w : World} {v : Value} {ps : List (Int × Int)} (h : Pairs w v ps) : SrcC w 2 v ps.length (pcells ps) := by
  obtain ⟨_, a, cap, rfl, _, _, hat⟩ := h
  refine ⟨pcells_length ps, by intro u hu; simp [pcells] at hu; obtain ⟨x, y, _, h | h⟩ := hu <;> subst h <;> rfl, ?_⟩
  cases a with
  | none =>
    rcases hat with rfl | ⟨b, off, e, _⟩
    · exact .inr ⟨rfl, _, rfl⟩
    · cases e
  | some ad =>
    refine .inl ⟨ad, cap, rfl, fun j u hu => ?_⟩
    rcases hat with rfl | ⟨b, off, e, hc⟩
    · simp [pcells] at hu
    · cases e
      have hj : j < ps.length * 2 := by
        rcases Nat.lt_or_ge j (ps.length * 2) with h | h
        · exact h
        · rw [List.getElem?_eq_none (by rw [pcells_length]; exact h)] at hu; cases hu
      have hi : j / 2 < ps.length := by omega
      obtain ⟨c1, c2⟩ := hc (j / 2) hi
      obtain ⟨d1, d2⟩ := pcells_get ps (j / 2) hi
      rcases Nat.mod_two_eq_zero_or_one j with h | h
      · rw [show j / 2 * 2 = j by omega] at d1
        rw [show off + j / 2 * 2 = off + j by omega] at c1
        rw [d1] at hu; cases hu
        by_cases h0 : j = 0
        · subst h0; simpa [Addr.add] using c1
        · simpa [Addr.add, h0] using c1
      · rw [show j / 2 * 2 + 1 = j by omega] at d2
        rw [show off + j / 2 * 2 + 1 = off + j by omega] at c2
        rw [d2] at hu; cases hu
        have h0 : ¬ j = 0 := by omega
        simpa [Addr.add, h0] using c2
/-- Two rows of elements of different types share no block. -/
theorem apart_types {w : World} {B B' : Nat} {E E' : TypeId} {s s' n n' : Nat} {v v' : Value} {xs xs' : List Value} (h : w.ownsRow B E s v n xs) (h' : w.ownsRow B' E' s' v' n' xs') (hE : E ≠ E') : v.ownBlock = none ∨ v.ownBlock ≠ v'.ownBlock := by
  rcases h.2 with ⟨rfl, _⟩ | ⟨g, cap, cur, rfl, _, hg, _⟩
  · exact .inl rfl
  · right
    rcases h'.2 with ⟨rfl, _⟩ | ⟨g', cap', cur', rfl, _, hg', _⟩
    · simp [Value.ownBlock]
    · intro e
      simp only [Value.ownBlock, Option.some.injEq] at e
      subst e
      rw [hg] at hg'
      simp only [Option.some.injEq, Obj.cells.injEq] at hg'
      exact hE hg'.2.1
/-- Every row of elements of another type than e lies behind as it lay before. -/
def RowsKept (e : TypeId) (w w' : World) : Prop := ∀ (B : Nat) (E : TypeId) (s : Nat) (v : Value) (n : Nat) (xs : List Value), E ≠ e → w.ownsRow B E s v n xs → w'.ownsRow B E s v n xs
theorem step_append_srcK {P : Program} (w : World) {ops : Array Oper} {o : Oper} {a : Act} {K : Act → World → Prop} {Q : Exit → Act → World → Prop} {E : Prop} (hgd : o.guard = none) (s x : Operand) (t : TypeId)
    (ho : o.op = .call { callee := .builtin .append, args := #[s, x], argTypes := #[t, t] })
    (base : Nat) (e : TypeId) (i : TypeInfo) (z : Value) (size bytes : Nat) (ht : P.underlying t = some (.slice e)) (hi : P.info? e = some i) (hz : i.zero = some z)
    (hsize : i.size = size) (hby : i.bytes = bytes) (hzs : z.cells.size = size) (hsz : 0 < size)
    (v : Value) (n : Nat) (xs : List Value) (hs : a.eval s = v) (hown : w.ownsRow base e size v n xs)
    (y : Value) (m : Nat) (news : List Value) (hx : a.eval x = y) (hy : SrcC w size y m news)
    (h63 : n + m ≤ maxLen) (hbytes : (n + m) * bytes ≤ 140737488355328) (hbase : base ≤ w.heap.size)
    (h : ∀ v' w', w'.ownsRow base e size v' (n + m) (xs ++ news) → w.grownBy w' v.ownBlock → RowsKept e w w' → (∀ j, v.ownBlock = some j → base ≤ j) → K (a.put o.dst v') w') :
    if Region.wanted o (yielded ops a.tmps) = true then Oper.wp P o a w K Q else E :=
  step_append_srcC w hgd s x t ho base e i z size bytes ht hi hz hsize hby hzs hsz v n xs hs hown y m news hx hy h63 hbytes hbase fun v' w' h1 h2 => h v' w' h1 h2 (fun _ _ _ _ _ _ hE hr => hr.kept h2 (apart_types hr hown hE)) (fun j hj => (hown.lt j hj).1)
/-- An empty literal. -/
theorem e_last (W : World) (E : TypeId) (s B N : Nat) (hN : W.heap.size = N) (hB : B ≤ N) : (W.alloc (.cells #[] E)).ownsRow B E s (.slice (some ⟨N, 0, none⟩) 0 0) 0 [] := by
  subst hN
  have h := World.ownsRow_made (base := B) (e := E) (size := s) W #[] 0 hB (by unfold maxLen; omega) (by simp)
  simpa using h
end Go.Proofs.Ytbmgmolnknnaiaa
