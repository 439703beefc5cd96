/- The state of a function's own array variables: blocks behind the world's size at entry, what each holds, and what stores, draws and calls do to it. -/
import Derived.Test.YtmkemagjedihmaaYFldA
import Derived.Laws.BytesArg
namespace Go.Proofs.Ytmkemagjedihmaa.St
open Go.RowKit Go.Proofs.Ytmkemagjedihmaa.Arr Go.Proofs.Ytmkemagjedihmaa.Limb Go.Proofs.YtmkemagjedihmaaW.PrintWords Go.Proofs.YtmkemagjedihmaaW.PrintLast Go.Proofs.YtmkemagjedihmaaW.PrintMore
set_option linter.unusedVariables false

structure Blk where
  t : TypeId
  k : IntKind
  xs : List Int
def St (w : World) (bs : List Blk) (wr : World) : Prop :=
  Below w.heap.size w wr ∧ ∀ i b, bs[i]? = some b → wr.heap[w.heap.size + i]? = some (.cells (arr b.k b.xs) b.t (0, 0))
variable {w wr w' : World} {bs : List Blk} {t : TypeId} {k : IntKind} {xs : List Int}

theorem St.start (w : World) : St w [] w := ⟨Below.refl _ _, fun i b h => by simp at h⟩
theorem St.push (h : St w bs wr) (hs : wr.heap.size = w.heap.size + bs.length) (t : TypeId) (k : IntKind) (xs : List Int) : St w (bs ++ [⟨t, k, xs⟩]) (wr.alloc (.cells (arr k xs) t)) := by
  refine ⟨below_alloc h.1 _, fun i b hb => ?_⟩
  rw [List.getElem?_append] at hb
  by_cases hi : i < bs.length
  · rw [if_pos hi] at hb
    exact blk_alloc (h.2 i b hb) _
  · rw [if_neg hi] at hb
    have h0 : i = bs.length := by
      rcases Nat.lt_or_ge (i - bs.length) 1 with h1 | h1
      · omega
      · rw [List.getElem?_eq_none (by simpa using h1)] at hb; simp at hb
    subst h0
    simp at hb
    subst hb
    rw [← hs]
    exact blk_new wr _
theorem St.blk (h : St w bs wr) (i : Nat) (hb : bs[i]? = some ⟨t, k, xs⟩) : wr.heap[w.heap.size + i]? = some (.cells (arr k xs) t (0, 0)) := h.2 i _ hb
theorem St.cell (h : St w bs wr) (i : Nat) (hb : bs[i]? = some ⟨t, k, xs⟩) (j : Nat) (hj : j < xs.length) : wr.cell? ⟨w.heap.size + i, j, none⟩ = some (.int k (xs.getD j 0)) := blk_get (h.2 i _ hb) j hj
theorem St.set (h : St w bs wr) (i : Nat) (hb : bs[i]? = some ⟨t, k, xs⟩) (j : Nat) (v : Int) : St w (bs.set i ⟨t, k, xs.set j v⟩) (wr.setCell ⟨w.heap.size + i, j, none⟩ (.int k v)) := by
  refine ⟨below_set h.1 (by omega), fun m b hm => ?_⟩
  rw [List.getElem?_set] at hm
  by_cases e : i = m
  · subst e
    rw [if_pos rfl] at hm
    split at hm
    · cases hm
      exact blk_upd (h.2 i _ hb) j v
    · cases hm
  · rw [if_neg e] at hm
    exact blk_far (h.2 m b hm) (by show w.heap.size + m ≠ w.heap.size + i; omega) _
theorem St.far (h : St w bs wr) (g : Nat) (hg : w.heap.size + bs.length ≤ g) (j : Nat) (v : Value) : St w bs (wr.setCell ⟨g, j, none⟩ v) := by
  refine ⟨below_set h.1 (by omega), fun m b hm => ?_⟩
  have : m < bs.length := by
    rcases Nat.lt_or_ge m bs.length with h1 | h1
    · exact h1
    · rw [List.getElem?_eq_none h1] at hm; cases hm
  exact blk_far (h.2 m b hm) (by show w.heap.size + m ≠ g; omega) _
theorem St.drew (h : St w bs wr) : St w bs wr.drew := ⟨below_drew h.1, fun m b hm => blk_drew (h.2 m b hm)⟩
theorem St.size (h : St w bs wr) : w.heap.size + bs.length ≤ wr.heap.size := by
  rcases Nat.eq_zero_or_pos bs.length with h0 | h0
  · have := below_size h.1; omega
  · have := h.2 (bs.length - 1) (bs[bs.length - 1]'(by omega)) (List.getElem?_eq_getElem (by omega))
    have h2 := (Array.getElem?_eq_some_iff.1 this).1
    omega
theorem St.step (h : St w bs wr) (hb : Below wr.heap.size wr w') : St w bs w' := by
  refine ⟨below_step h.1 hb, fun m b hm => ?_⟩
  exact blk_below (h.2 m b hm) hb
theorem St.alloc (h : St w bs wr) (o : Obj) : St w bs (wr.alloc o) := ⟨below_alloc h.1 _, fun m b hm => blk_alloc (h.2 m b hm) _⟩
theorem St.row (h : St w bs wr) (i : Nat) {t : TypeId} {k : IntKind} {ys xs : List Int} (hb : bs[i]? = some ⟨t, k, ys⟩)
    (h1 : w'.heap[w.heap.size + i]? = some (.cells (arr k xs) t (0, 0))) (h2 : ∀ j, j ≠ w.heap.size + i → w'.heap[j]? = wr.heap[j]?) (h3 : ∀ B w0, Below B w0 wr → B ≤ w.heap.size + i → Below B w0 w') : St w (bs.set i ⟨t, k, xs⟩) w' := by
  refine ⟨h3 _ _ h.1 (by omega), fun m b hm => ?_⟩
  rw [List.getElem?_set] at hm
  by_cases e : i = m
  · subst e
    rw [if_pos rfl] at hm
    split at hm
    · cases hm; exact h1
    · cases hm
  · rw [if_neg e] at hm
    rw [h2 _ (by omega)]
    exact h.2 m b hm
theorem St.other (h : St w bs wr) {g : Nat} (h2 : ∀ j, j ≠ g → w'.heap[j]? = wr.heap[j]?) (h3 : ∀ B w0, Below B w0 wr → B ≤ g → Below B w0 w') (hg : w.heap.size + bs.length ≤ g) : St w bs w' := by
  refine ⟨h3 _ _ h.1 (by omega), fun m b hm => ?_⟩
  have : m < bs.length := by
    rcases Nat.lt_or_ge m bs.length with h1 | h1
    · exact h1
    · rw [List.getElem?_eq_none h1] at hm; cases hm
  rw [h2 _ (by omega)]
  exact h.2 m b hm
theorem St.stepB (h : St w bs wr) (hb : Below (w.heap.size + bs.length) wr w') : St w bs w' := by
  refine ⟨⟨hb.os.trans h.1.os, hb.tape.trans h.1.tape, hb.output.trans h.1.output, Nat.le_trans h.1.size hb.size, fun k hk => (hb.block k (by omega)).trans (h.1.block k hk)⟩, fun m b hm => ?_⟩
  have : m < bs.length := by
    rcases Nat.lt_or_ge m bs.length with h1 | h1
    · exact h1
    · rw [List.getElem?_eq_none h1] at hm; cases hm
  rw [hb.block _ (by omega)]
  exact h.2 m b hm
theorem below_stepB {B : Nat} {w W w2 : World} (h : Below B w W) (h2 : Below W.heap.size W w2) (hB : B ≤ W.heap.size) : Below B w w2 :=
  ⟨h2.os.trans h.os, h2.tape.trans h.tape, h2.output.trans h.output, Nat.le_trans h.size h2.size, fun k hk => (h2.block k (by omega)).trans (h.block k hk)⟩
theorem R_fresh (e : TypeId) (W : World) (base : Nat) (hbase : base ≤ W.heap.size) : Kd.R (Kd.int .u8) e (W.alloc (.cells #[] e)) base (fun _ => True) (.slice (some ⟨W.heap.size, 0, none⟩) 0 0) [] := by
  refine ⟨fun _ _ => trivial, [], ?_, Reps.none _ _⟩
  have h2 := World.ownsRow_lit (base := base) (e := e) (size := (Kd.int .u8).sz) W #[] 0 hbase (by decide) (by simp)
  simpa using h2
theorem conv_C {P : Program} (src dst e : TypeId) (hs : P.underlying src = some (.slice e)) (he : P.underlying e = some (.int .u8)) (hd : P.underlying dst = some .string) (w : World) (A : Option Addr) (c : Nat) (l : List Int) (h : Kd.C (Kd.int .u8) w A l.length l) (h0 : 0 < l.length) :
    (convert src dst (.slice A l.length c)).run P w = .ok (.string (strOfNums l)) w := by
  obtain ⟨ad, e', _⟩ := Kd.at_int h 0 (by omega) (by omega)
  subst e'
  have hl : (loadCells ad l.length).run P w = .ok (l.map (Value.int .u8)).toArray w := by
    have := run_loadCells_list (P := P) w ad (l.map (Value.int .u8)) (fun j v hj => by
      have hjl : j < l.length := by
        rcases Nat.lt_or_ge j l.length with h | h
        · exact h
        · simp [List.getElem?_eq_none (show (l.map (Value.int .u8)).length ≤ j by simpa using h)] at hj
      obtain ⟨ad2, e2, h2⟩ := Kd.at_int h (j : Int) (by omega) (by omega)
      cases e2
      rw [Int.toNat_natCast] at h2
      rw [h2]
      simp [List.getElem?_eq_getElem hjl] at hj
      subst hj
      simp [rd, List.getD, List.getElem?_eq_getElem hjl])
    simpa using this
  rw [run_convert_bytes_string w src dst e _ l.length c hs he hd, run_bytesToString w _ l.length c l hl, foldl_push_bytes]
  simp [strOfNums, ByteArray.empty, ByteArray.emptyWithCapacity]
  rfl
theorem St.below (h : St w bs wr) : Below w.heap.size w wr := h.1
def z16 : List Int := List.replicate 16 0
def z4 : List Int := List.replicate 4 0
def z8 : List Int := List.replicate 8 0
end Go.Proofs.Ytmkemagjedihmaa.St
