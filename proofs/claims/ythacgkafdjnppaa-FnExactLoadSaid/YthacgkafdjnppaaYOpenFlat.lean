/- Plain facts on rows that a call has made, of elements whose cells are told by them alone: seen as cells; an element laid in between, in place and anew; a copy of several cells an element. -/
import Derived.Test.YthacgkafdjnppaaYOpenRow
import Derived.Laws.IdiomCopy
import Derived.Lib.AppendZerosOnto
import Derived.Lib.Overlaps
import Derived.StillTailTactics
namespace Go.Proofs.Ythacgkafdjnppaa.OpenFlat
open Go.RowKit Go.Proofs.YthacgkafdjnppaaW.PrintWords Go.Proofs.YthacgkafdjnppaaW.PrintLast Go.Proofs.YthacgkafdjnppaaW.PrintMore
set_option linter.unusedVariables false
structure Flat {α : Type} (d : Kd α) (enc : α → List Value) : Prop where
  iff : ∀ (W : World) (base : Nat) (ok : Nat → Prop) (x : α) (cs : List Value), d.M W base ok x cs ↔ cs = enc x
  len : ∀ x, (enc x).length = d.sz
  one : ∀ x, ∀ v ∈ enc x, v.oneCell' = true
section
variable {α : Type} {d : Kd α} {enc : α → List Value} {e base g n c : Nat} {ok : Nat → Prop} {xs : List α} {w W : World}
theorem cells_length (F : Flat d enc) (xs : List α) : (xs.flatMap enc).length = xs.length * d.sz := by
  induction xs with
  | nil => simp
  | cons x xs ih => rw [List.flatMap_cons, List.length_append, ih, F.len, List.length_cons, Nat.succ_mul]; omega
theorem cells_one (F : Flat d enc) (xs : List α) : ∀ v ∈ xs.flatMap enc, v.oneCell' = true := by
  intro v hv
  obtain ⟨x, _, hx⟩ := List.mem_flatMap.1 hv
  exact F.one x v hx
theorem cells_take (F : Flat d enc) (i : Nat) : ∀ (xs : List α), i ≤ xs.length → (xs.flatMap enc).take (i * d.sz) = (xs.take i).flatMap enc := by
  induction i with
  | zero => intro xs _; simp
  | succ i ih =>
    intro xs h
    cases xs with
    | nil => simp at h
    | cons x xs =>
      rw [List.flatMap_cons, List.take_succ_cons, List.flatMap_cons, ← ih xs (by simpa using h), List.take_append, List.take_of_length_le (by rw [F.len, Nat.succ_mul]; omega), F.len]
      congr 2; rw [Nat.succ_mul]; omega
theorem cells_drop (F : Flat d enc) (i : Nat) : ∀ (xs : List α), i ≤ xs.length → (xs.flatMap enc).drop (i * d.sz) = (xs.drop i).flatMap enc := by
  induction i with
  | zero => intro xs _; simp
  | succ i ih =>
    intro xs h
    cases xs with
    | nil => simp at h
    | cons x xs =>
      rw [List.flatMap_cons, List.drop_succ_cons, ← ih xs (by simpa using h), List.drop_append, List.drop_of_length_le (by rw [F.len, Nat.succ_mul]; omega), F.len, List.nil_append]
      congr 1; rw [Nat.succ_mul]; omega
theorem reps_flat (F : Flat d enc) : ∀ (xs : List α) (cs : List Value), Reps (d.M w base ok) d.sz xs cs → cs = xs.flatMap enc
  | [], cs, h => by
    have := h.1
    simp at this
    simp [this]
  | x :: xs, cs, h => by
    have h0 := (F.iff _ _ _ _ _).1 (h.2 0 x rfl)
    rw [Nat.zero_mul, List.drop_zero] at h0
    have ht : Reps (d.M w base ok) d.sz xs (cs.drop d.sz) := ⟨by rw [List.length_drop, h.1, List.length_cons, Nat.succ_mul]; omega, fun j p hj => by
      have := h.2 (j + 1) p (by simpa using hj)
      rw [List.drop_drop, show d.sz + j * d.sz = (j + 1) * d.sz by rw [Nat.succ_mul]; omega]
      exact this⟩
    rw [List.flatMap_cons, ← reps_flat F xs _ ht, ← h0, List.take_append_drop]
theorem flat_reps (F : Flat d enc) : ∀ (xs : List α), Reps (d.M w base ok) d.sz xs (xs.flatMap enc)
  | [] => Reps.none _ _
  | x :: xs => by
    have h1 : Reps (d.M w base ok) d.sz [x] (enc x) := ⟨by rw [F.len]; simp, fun j p hj => by
      cases j with
      | zero =>
        simp at hj; subst hj
        rw [Nat.zero_mul, List.drop_zero, List.take_of_length_le (by rw [F.len]; exact Nat.le_refl _)]
        exact (F.iff _ _ _ _ _).2 rfl
      | succ j => simp at hj⟩
    have := Kd.reps_append h1 (flat_reps F xs)
    rw [List.flatMap_cons]
    exact this
theorem R_view (F : Flat d enc) (h : d.R e w base ok (.slice (some ⟨g, 0, none⟩) n c) xs) :
    n = xs.length ∧ n ≤ c ∧ c ≤ maxLen ∧ base ≤ g ∧ ok g ∧ ∃ cur : Array Value, w.heap[g]? = some (.cells cur e (0, 0)) ∧ cur.size = c * d.sz ∧ cur.toList.take (n * d.sz) = xs.flatMap enc := by
  have hn := (Kd.R_reads' h).1
  obtain ⟨h0, inner, ho, hr⟩ := h
  rcases ho.2 with ⟨hv, _⟩ | ⟨g', cap', cur, hv, hb, hh, h1, h2, h3, h4⟩
  · cases hv
  · injection hv with ha _ hc
    injection ha with ha
    injection ha with ha _ _
    subst ha hc
    exact ⟨hn, by omega, h2, hb, h0 g rfl, cur, hh, h3, by rw [hn, h4]; exact reps_flat F xs _ hr⟩
theorem R_of_view (F : Flat d enc) {cur : Array Value} (hn : n = xs.length) (hnc : n ≤ c) (hm : c ≤ maxLen) (hb : base ≤ g) (hok : ok g) (hh : w.heap[g]? = some (.cells cur e (0, 0))) (hs : cur.size = c * d.sz) (ht : cur.toList.take (n * d.sz) = xs.flatMap enc) :
    d.R e w base ok (.slice (some ⟨g, 0, none⟩) n c) xs := by
  subst hn
  refine ⟨fun k hk => ?_, xs.flatMap enc, ⟨cells_length F xs, .inr ⟨g, c, cur, rfl, hb, hh, hnc, hm, hs, ht⟩⟩, flat_reps F xs⟩
  have : g = k := by simpa [Value.ownBlock] using hk
  rw [← this]; exact hok
theorem R_lay (F : Flat d enc) {cur : Array Value} {i : Nat} (x : α) (ys zs : List α) (hy : ys.length = i) (hn : n = i + 1 + zs.length) (hnc : n ≤ c) (hm : c ≤ maxLen) (hb : base ≤ g) (hok : ok g) (hh : W.heap[g]? = some (.cells cur e (0, 0))) (hs : cur.size = c * d.sz) (ht : cur.toList.take (i * d.sz) = ys.flatMap enc) :
    d.R e ((W.setCells g ((i + 1) * d.sz) (zs.flatMap enc)).setCells g (i * d.sz) (enc x)) base ok (.slice (some ⟨g, 0, none⟩) n c) (ys ++ x :: zs) ∧ W.grownBy ((W.setCells g ((i + 1) * d.sz) (zs.flatMap enc)).setCells g (i * d.sz) (enc x)) (some g) := by
  have hzl := cells_length F zs
  have hxl := F.len x
  have hsz : (i + 1) * d.sz = i * d.sz + d.sz := Nat.succ_mul _ _
  have hnz : n * d.sz = (i + 1) * d.sz + zs.length * d.sz := by rw [hn, Nat.add_mul]
  have hcz : n * d.sz ≤ c * d.sz := Nat.mul_le_mul_right _ hnc
  have hcl : cur.toList.length = c * d.sz := by simpa using hs
  obtain ⟨c1, h1, s1, l1⟩ := setCells_row (zs.flatMap enc) ((i + 1) * d.sz) W cur hh (by omega)
  obtain ⟨c2, h2, s2, l2⟩ := setCells_row (enc x) (i * d.sz) _ c1 h1 (by omega)
  obtain ⟨a1, a2, a3, a4⟩ := setCells_same g (zs.flatMap enc) ((i + 1) * d.sz) W
  obtain ⟨b1, b2, b3, b4⟩ := setCells_same g (enc x) (i * d.sz) (W.setCells g ((i + 1) * d.sz) (zs.flatMap enc))
  refine ⟨R_of_view F (cur := c2) (by simp; omega) hnc hm hb hok h2 (by omega) ?_, ⟨by rw [b1, a1], by rw [b2, a2], by rw [b3, a3], by rw [b4, a4]; exact Nat.le_refl _, fun k _ hk => ?_⟩⟩
  · have e1 : c1.toList.take (i * d.sz) = ys.flatMap enc := by
      rw [l1, List.append_assoc, List.take_append_of_le_length (by rw [List.length_take]; omega), List.take_take, Nat.min_eq_left (by omega), ht]
    have e2 : c1.toList.drop (i * d.sz + (enc x).length) = zs.flatMap enc ++ cur.toList.drop ((i + 1) * d.sz + (zs.flatMap enc).length) := by
      rw [l1, List.append_assoc, List.drop_append_of_le_length (by rw [List.length_take]; omega), List.drop_of_length_le (by rw [List.length_take]; omega), List.nil_append]
    rw [l2, e1, e2, List.flatMap_append, List.flatMap_cons, show ∀ (p q r t : List Value), p ++ q ++ (r ++ t) = (p ++ (q ++ r)) ++ t from fun p q r t => by simp only [List.append_assoc]]
    exact List.take_left' (by rw [List.length_append, List.length_append, cells_length F ys, hy]; omega)
  · have hk' : k ≠ g := fun he => hk (by rw [he])
    rw [setCells_far _ _ k hk', setCells_far _ _ k hk']
theorem R_lay2 (F : Flat d enc) {cur : Array Value} {i : Nat} (x : α) (ys zs : List α) (hy : ys.length = i) (hn : n = i + 1 + zs.length) (hnc : n ≤ c) (hm : c ≤ maxLen) (hb : base ≤ g) (hok : ok g) (hh : W.heap[g]? = some (.cells cur e (0, 0))) (hs : cur.size = c * d.sz) (ht : cur.toList.take (i * d.sz) = ys.flatMap enc) :
    d.R e ((W.setCells g (i * d.sz) (enc x)).setCells g ((i + 1) * d.sz) (zs.flatMap enc)) base ok (.slice (some ⟨g, 0, none⟩) n c) (ys ++ x :: zs) ∧ W.grownBy ((W.setCells g (i * d.sz) (enc x)).setCells g ((i + 1) * d.sz) (zs.flatMap enc)) (some g) := by
  have hzl := cells_length F zs
  have hxl := F.len x
  have hsz : (i + 1) * d.sz = i * d.sz + d.sz := Nat.succ_mul _ _
  have hnz : n * d.sz = (i + 1) * d.sz + zs.length * d.sz := by rw [hn, Nat.add_mul]
  have hcz : n * d.sz ≤ c * d.sz := Nat.mul_le_mul_right _ hnc
  have hcl : cur.toList.length = c * d.sz := by simpa using hs
  obtain ⟨c1, h1, s1, l1⟩ := setCells_row (enc x) (i * d.sz) W cur hh (by omega)
  obtain ⟨c2, h2, s2, l2⟩ := setCells_row (zs.flatMap enc) ((i + 1) * d.sz) _ c1 h1 (by omega)
  obtain ⟨a1, a2, a3, a4⟩ := setCells_same g (enc x) (i * d.sz) W
  obtain ⟨b1, b2, b3, b4⟩ := setCells_same g (zs.flatMap enc) ((i + 1) * d.sz) (W.setCells g (i * d.sz) (enc x))
  refine ⟨R_of_view F (cur := c2) (by simp; omega) hnc hm hb hok h2 (by omega) ?_, ⟨by rw [b1, a1], by rw [b2, a2], by rw [b3, a3], by rw [b4, a4]; exact Nat.le_refl _, fun k _ hk => ?_⟩⟩
  · have e1 : c1.toList.take ((i + 1) * d.sz) = ys.flatMap enc ++ enc x := by
      rw [l1, ← ht]
      exact List.take_left' (by rw [List.length_append, List.length_take]; omega)
    rw [l2, e1, List.flatMap_append, List.flatMap_cons, ← List.append_assoc (ys.flatMap enc)]
    exact List.take_left' (by rw [List.length_append, List.length_append, cells_length F ys, hy]; omega)
  · have hk' : k ≠ g := fun he => hk (by rw [he])
    rw [setCells_far _ _ k hk', setCells_far _ _ k hk']
theorem R_beyond (F : Flat d enc) (h : d.R e W base ok (.slice (some ⟨g, 0, none⟩) n c) xs) (o : Nat) (vs : List Value) (h1 : n * d.sz ≤ o) (h2 : o + vs.length ≤ c * d.sz) :
    d.R e (W.setCells g o vs) base ok (.slice (some ⟨g, 0, none⟩) n c) xs ∧ W.grownBy (W.setCells g o vs) (some g) := by
  obtain ⟨hn, hnc, hm, hb, hok, cur, hh, hs, ht⟩ := R_view F h
  have hcl : cur.toList.length = c * d.sz := by simpa using hs
  obtain ⟨c1, h3, s1, l1⟩ := setCells_row vs o W cur hh (by omega)
  obtain ⟨a1, a2, a3, a4⟩ := setCells_same g vs o W
  refine ⟨R_of_view F (cur := c1) hn hnc hm hb hok h3 (by omega) ?_, ⟨a1, a2, a3, by rw [a4]; exact Nat.le_refl _, fun k _ hk => setCells_far _ _ k (fun he => hk (by rw [he]))⟩⟩
  rw [l1, List.append_assoc, List.take_append_of_le_length (by rw [List.length_take]; omega), List.take_take, Nat.min_eq_left h1, ht]
end
theorem run_copy_sized {P : Program} (w : World) (dT sT ty elem : TypeId) (sz b o dLen dCap : Nat) (a : Addr) (sLen sCap : Nat) (cs : List Value)
    (hu : P.underlying dT = some (.slice elem)) (hs : (P.info? elem).map (·.size) = some sz) (hz : 0 < sz) (m : Nat) (hm : m = Nat.min sLen dLen) (hn : cs.length = m * sz)
    (hsrc : ∀ j v, cs[j]? = some v → w.cell? (a.add j) = some v) (hc : ∀ j, j < cs.length → (w.cell? ⟨b, o + j, none⟩).isSome = true) (hf : ∀ j, j < cs.length → w.frozen? ⟨b, o + j, none⟩ = false) (h1 : ∀ v ∈ cs, v.oneCell' = true) :
    (Builtin.copy_ #[dT, sT] ty #[.slice (some ⟨b, o, none⟩) dLen dCap, .slice (some a) sLen sCap]).run P w = .ok (goInt m) (w.setCells b o cs) := by
  have hl := run_loadCells_list (P := P) w a cs hsrc
  have hst := run_storeCells_cells (P := P) b o cs 0 w (by simpa using hc) (by simpa using hf) h1
  cases hq : P.info? elem with
  | none => simp [hq] at hs
  | some i =>
    have hi : i.size = sz := by simpa [hq] using hs
    rw [hn] at hl
    simp [Builtin.copy_, run_underlying hu, Builtin.lenOf, Builtin.firstCells, sizeOf, typeInfo, hq, hi, ← hm, hl, hst]
section
variable {P : Program} (t e : TypeId) (ht : P.underlying t = some (.slice e)) {i : TypeInfo} (hi : P.info? e = some i) {sz : Nat} (hsz : i.size = sz) (g n cap : Nat) (W : World)
include ht hi hsz
def pl (g cap l sz : Nat) : Option Addr := if cap = l then some ⟨g, 0, none⟩ else some ⟨g, l * sz, none⟩
theorem cut_l (kl : IntKind) (l : Nat) (L : Int) (hL : L = l) (h1 : l ≤ n) :
    (Instr.slice t (.slice (some ⟨g, 0, none⟩) n cap) (some (.int kl L)) none none).run P W = .ok (.slice (pl g cap l sz) (n - l) (cap - l)) W := by
  subst hL
  have hel : P.elem t = e := by simp [Program.elem, ht]
  have hu : P.underlying t = some (.slice (P.elem t)) := by rw [hel]; exact ht
  rw [run_slice_l W t (some ⟨g, 0, none⟩) n cap hu kl l (by omega) (by omega), hel]
  simp [sizeOf, typeInfo, hi, hsz, sliced, pl, Result.andThen, add_plain]
theorem cut_lh (kl kh : IntKind) (l h : Nat) (L H : Int) (hL : L = l) (hH : H = h) (h1 : l ≤ h) (h2 : h ≤ cap) :
    (Instr.slice t (.slice (some ⟨g, 0, none⟩) n cap) (some (.int kl L)) (some (.int kh H)) none).run P W = .ok (.slice (pl g cap l sz) (h - l) (cap - l)) W := by
  subst hL hH
  have hel : P.elem t = e := by simp [Program.elem, ht]
  have hu : P.underlying t = some (.slice (P.elem t)) := by rw [hel]; exact ht
  rw [run_slice_lh W t (some ⟨g, 0, none⟩) n cap hu kl kh l h (by omega) (by omega) (by omega), hel]
  simp [sizeOf, typeInfo, hi, hsz, sliced, pl, Result.andThen, add_plain]
theorem cut_lhm (kl kh km : IntKind) (l h m : Nat) (L H M : Int) (hL : L = l) (hH : H = h) (hM : M = m) (h1 : l ≤ h) (h2 : h ≤ m) (h3 : m ≤ cap) :
    (Instr.slice t (.slice (some ⟨g, 0, none⟩) n cap) (some (.int kl L)) (some (.int kh H)) (some (.int km M))).run P W = .ok (.slice (pl g m l sz) (h - l) (m - l)) W := by
  subst hL hH hM
  have hel : P.elem t = e := by simp [Program.elem, ht]
  have hu : P.underlying t = some (.slice (P.elem t)) := by rw [hel]; exact ht
  rw [run_slice_lhm W t (some ⟨g, 0, none⟩) n cap hu kl kh km l h m (by omega) (by omega) (by omega) (by omega), hel]
  simp [sizeOf, typeInfo, hi, hsz, sliced, pl, Result.andThen, add_plain]
theorem cut_h (kh : IntKind) (h : Nat) (H : Int) (hH : H = h) (h2 : h ≤ cap) :
    (Instr.slice t (.slice (some ⟨g, 0, none⟩) n cap) none (some (.int kh H)) none).run P W = .ok (.slice (some ⟨g, 0, none⟩) h cap) W := by
  subst hH
  have hel : P.elem t = e := by simp [Program.elem, ht]
  have hu : P.underlying t = some (.slice (P.elem t)) := by rw [hel]; exact ht
  rw [run_slice_h W t (some ⟨g, 0, none⟩) n cap hu kh h (by omega) (by omega), hel]
  simp [sizeOf, typeInfo, hi, hsz, sliced, Result.andThen, add_plain]
end
theorem drew_setCells (b : Nat) : ∀ (vs : List Value) (o : Nat) (w : World), (w.setCells b o vs).drew = w.drew.setCells b o vs
  | [], _, _ => rfl
  | v :: r, o, w => by rw [World.setCells, World.setCells, drew_setCells b r]; rfl
theorem wpList_copy_run {P : Program} (w : World) {ops : Array Oper} {rest : List Oper} {o : Oper} {a : Act} {Q : Exit → Act → World → Prop} (hgd : o.guard = none) (d s : Operand) (t t' : TypeId)
    (ho : o.op = .call { callee := .builtin .copy, args := #[d, s], argTypes := #[t, t'] }) (v u : Value) (hd : a.eval d = v) (hs : a.eval s = u) {v' : Value} {w' : World}
    (hr : (Builtin.copy_ #[t, t'] o.type #[v, u]).run P w = .ok v' w') (h : wpList P ops Q rest (a.put o.dst v') w') : wpList P ops Q (o :: rest) a w :=
  wpList_plain hgd fun _ hK => by
    unfold Oper.wp execOp
    simp only [ho, resolve, invoke, builtin, Sem.run_bind, Sem.run_pure, Result.andThen_ok, List.map_toArray, List.map_cons, List.map_nil, hd, hs, hr]
    exact hK _ _ h
theorem R_cases {α : Type} {d : Kd α} {enc : α → List Value} {e base : Nat} {ok : Nat → Prop} {xs : List α} {w : World} {v : Value} (h : d.R e w base ok v xs) : (v = .slice none 0 0 ∧ xs = []) ∨ ∃ g c, v = .slice (some ⟨g, 0, none⟩) xs.length c := by
  obtain ⟨h0, inner, ho, hr⟩ := h
  rcases ho.2 with ⟨hv, hn⟩ | ⟨g', cap', cur, hv, hb, hh, h1, h2, h3, h4⟩
  · exact .inl ⟨hv, List.eq_nil_of_length_eq_zero hn⟩
  · exact .inr ⟨g', cap', hv⟩
theorem C_box {α : Type} {d : Kd α} {enc : α → List Value} {e b : Nat} {w : World} (F : Flat d enc) (x : α) (hh : w.heap[b]? = some (.cells (enc x).toArray e (0, 0))) : d.C w (some ⟨b, 0, none⟩) 1 [x] := by
  have h : d.R e w 0 (fun _ => True) (.slice (some ⟨b, 0, none⟩) 1 1) [x] := R_of_view F (cur := (enc x).toArray) rfl (Nat.le_refl _) (by decide) (Nat.zero_le _) trivial hh (by simp [F.len]) (by simp [List.take_of_length_le, F.len])
  exact (Kd.R_reads' h).2.2
section
variable {P : Program} (t e : TypeId) (ht : P.underlying t = some (.slice e)) {i : TypeInfo} (hi : P.info? e = some i) {sz : Nat} (hsz : i.size = sz) (A : Option Addr) (n cap : Nat) (W : World)
include ht hi hsz
theorem cut_any_l (kl : IntKind) (l : Nat) (L : Int) (hL : L = l) (h1 : l ≤ n) :
    (Instr.slice t (.slice A n cap) (some (.int kl L)) none none).run P W = .ok (.slice (if cap = l then A else A.map (·.add (l * sz))) (n - l) (cap - l)) W := by
  subst hL
  have hel : P.elem t = e := by simp [Program.elem, ht]
  have hu : P.underlying t = some (.slice (P.elem t)) := by rw [hel]; exact ht
  rw [run_slice_l W t A n cap hu kl l (by omega) (by omega), hel]
  simp [sizeOf, typeInfo, hi, hsz, sliced, Result.andThen]
theorem cut_any_h (kh : IntKind) (h : Nat) (H : Int) (hH : H = h) (h2 : h ≤ cap) :
    (Instr.slice t (.slice A n cap) none (some (.int kh H)) none).run P W = .ok (.slice A h cap) W := by
  subst hH
  have hel : P.elem t = e := by simp [Program.elem, ht]
  have hu : P.underlying t = some (.slice (P.elem t)) := by rw [hel]; exact ht
  have h0 : ∀ a : Addr, a.add 0 = a := fun a => by unfold Addr.add; simp
  rw [run_slice_h W t A n cap hu kh h (by omega) (by omega), hel]
  simp [sizeOf, typeInfo, hi, hsz, sliced, Result.andThen, h0]
end
theorem ownBlock_slice (A : Option Addr) (n c n' c' : Nat) : (Value.slice A n c).ownBlock = (Value.slice A n' c').ownBlock := by cases A <;> rfl
theorem R_kept {α : Type} {d : Kd α} {enc : α → List Value} {e base : Nat} {ok : Nat → Prop} {xs : List α} {W W1 : World} {v : Value} {row : Option Nat} (F : Flat d enc) (h : d.R e W base ok v xs) (hg : W.grownBy W1 row) (hne : ∀ k, v.ownBlock = some k → some k ≠ row) : d.R e W1 base ok v xs := by
  rcases R_cases (enc := enc) h with ⟨rfl, rfl⟩ | ⟨g, c, rfl⟩
  · exact Kd.R_nil _ _ _ _ _
  · obtain ⟨hn, hnc, hm, hb, hok, cur, hh, hs, ht⟩ := R_view F h
    exact R_of_view F (cur := cur) hn hnc hm hb hok ((hg.block g (blk_lt hh) (hne g rfl)).trans hh) hs ht
theorem pl_ne {g cap l sz : Nat} (h : l < cap) : pl g cap l sz = some ⟨g, l * sz, none⟩ := by unfold pl; rw [if_neg (by omega)]
end Go.Proofs.Ythacgkafdjnppaa.OpenFlat
