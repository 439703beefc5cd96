/- A region that draws its order, whose calls stand in one chain while new blocks may be laid between them: each order at once. -/
import Derived.Test.YtlajcahlmbjmnaaYStMid
set_option linter.unusedVariables false
namespace Go.Proofs.Ytlajcahlmbjmnaa.StChain
open Go.RowKit Go.Proofs.Ytlajcahlmbjmnaa.Arr Go.Proofs.Ytlajcahlmbjmnaa.Limb Go.Proofs.Ytlajcahlmbjmnaa.St Go.Proofs.Ytlajcahlmbjmnaa.StOps Go.Proofs.YtlajcahlmbjmnaaW.PrintWords Go.Proofs.YtlajcahlmbjmnaaW.PrintLast Go.Proofs.YtlajcahlmbjmnaaW.PrintMore
variable {P : Program} {md : Region.Mode} {ops : Array Oper} {Q : Exit → Act → World → Prop} {S : World → Prop} {ds : List Nat}
theorem ld_any {rest : List Oper} {o : Oper} {a : Act} {w : World} (hgd : o.guard = none) (ty : TypeId) (x : Operand) (ho : o.op = .load ty x) (g : Nat) (hx : a.eval x = .pointer (some ⟨g, 0, none⟩)) {t : TypeId} {k : IntKind} {xs : List Int} (hg : w.heap[g]? = some (.cells (arr k xs) t (0, 0)))
    {d : TypeDesc} (hu : P.underlying ty = some d) (hd : (match d with | .struct _ | .array _ _ => true | _ => false) = true) {m : Nat} (hi : (P.info? ty).map (·.size) = some m) (hm : xs.length = m) (h : wpList P ops Q rest (a.put o.dst (.agg (arr k xs))) w) : wpList P ops Q (o :: rest) a w :=
  wpList_load_row hgd ty x ho g hx t _ _ _ hg hu hd (by rw [hi, arr_size, hm]) h
theorem run_any {ρ : Operand → Value} {o : Oper} {w : World} (ty : TypeId) (x : Operand) (ho : o.op = .load ty x) (g : Nat) (hx : ρ x = .pointer (some ⟨g, 0, none⟩)) {t : TypeId} {k : IntKind} {xs : List Int} (hg : w.heap[g]? = some (.cells (arr k xs) t (0, 0)))
    {d : TypeDesc} (hu : P.underlying ty = some d) (hd : (match d with | .struct _ | .array _ _ => true | _ => false) = true) {m : Nat} (hi : (P.info? ty).map (·.size) = some m) (hm : xs.length = m) : (execOp ρ o).run P w = .ok (.value (.agg (arr k xs))) w := by
  unfold execOp
  simp only [ho, hx, Instr.loadAt, Instr.sureAddr, Sem.run_bind, Sem.run_pure, Result.andThen_ok, run_loadVar_row w g t ty _ _ _ hg hu hd (by rw [hi, arr_size, hm])]
theorem dag {σ : Type} (mask : σ → Array Bool) (rank : σ → Nat) (Inv : σ → Act → World → Prop) (f : Nat)
    (hS : ∀ s a w, Inv s a w → S w)
    (hr : ∀ s, rank s ≠ 0 → Region.ready md ops (mask s) ≠ [])
    (hstep : ∀ s, rank s ≠ 0 → ∀ i, i ∈ Region.ready md ops (mask s) → i ∉ ds ∧ ∃ o s', ops[i]? = some o ∧ mask s' = (mask s).setIfInBounds i true ∧ rank s' + 1 = rank s ∧
      ∀ a w, Inv s a w → ∀ K : Act → World → Prop, (∀ a' w', Inv s' a' w' → K a' w') → if Region.wanted o (yielded ops a.tmps) = true then Oper.wp P o a w K Q else K (a.put o.dst undef) w)
    (hfin : ∀ s, rank s = 0 → ∀ a w, Inv s a w → wpAnyLast P md ops Q S ds f (mask s) a w) :
    ∀ n s, rank s = n → ∀ a w, Inv s a w → wpAnyLast P md ops Q S ds (f + n) (mask s) a w := by
  intro n
  induction n with
  | zero => intro s h a w hi; exact hfin s h a w hi
  | succ n ih =>
    intro s h a w hi
    refine wpAnyLast_ready rfl (hr s (by omega)) ?_
    intro j hj
    obtain ⟨hd, o, s', ho, hm, hk, hw⟩ := hstep s (by omega) j hj
    have one : AllReadyL P md ops Q S ds (f + n) (mask s) a w [j] := AllReadyL.cons ho hd (fun K' hK => hw a w hi K' (fun a' w' h' => hK.out a' w' (hS s' a' w' h') (fun _ => by rw [← hm]; exact ih s' (by omega) a' w' h'))) AllReadyL.nil
    exact one j (List.mem_singleton.2 rfl)
def ptr (g : Nat) : Value := .pointer (some ⟨g, 0, none⟩)
def sets (l : Array Bool) : List Nat → Array Bool
  | [] => l
  | i :: r => sets (l.setIfInBounds i true) r
theorem put_comm (A : Act) (i j : Tmp) (v u : Value) (h : i ≠ j) : (A.put (some i) v).put (some j) u = (A.put (some j) u).put (some i) v := by
  unfold Act.put
  simp only []
  congr 1
  exact (Array.setIfInBounds_comm _ _ h)
theorem put_put (A : Act) (i : Tmp) (v u : Value) : (A.put (some i) v).put (some i) u = A.put (some i) u := by
  unfold Act.put
  simp only []
  congr 1
  simp
theorem putAll_snoc (a : Act) (l : List (Tmp × Value)) (n : Tmp) (v : Value) : putAll a (l ++ [(n, v)]) = (putAll a l).put (some n) v := by
  induction l generalizing a with
  | nil => rfl
  | cons x l ih => exact ih _
def Each (R : Nat → Nat → Prop) : Nat → List Nat → Prop
  | _, [] => True
  | k, i :: r => R k i ∧ Each R (k + 1) r
theorem Each.get {R : Nat → Nat → Prop} : ∀ (l : List Nat) (k j : Nat) (i : Nat), Each R k l → l[j]? = some i → R (k + j) i
  | [], k, j, i, _, h => by simp at h
  | x :: r, k, 0, i, he, h => by
    have : x = i := by simpa using h
    subst this; exact he.1
  | x :: r, k, j + 1, i, he, h => by
    have := Each.get r (k + 1) j i he.2 (by simpa using h)
    rw [show k + (j + 1) = k + 1 + j by omega]; exact this
theorem each_mono {R R' : Nat → Nat → Prop} : ∀ (l : List Nat) (k : Nat), Each R k l → (∀ k i, R k i → R' k i) → Each R' k l
  | [], _, _, _ => trivial
  | _ :: r, k, h, hm => ⟨hm _ _ h.1, each_mono r (k + 1) h.2 hm⟩
def mk1 (l0 : Array Bool) (cl : List Nat) (i1 k : Nat) (b1 : Bool) : Array Bool := if b1 then (sets l0 (cl.take k)).setIfInBounds i1 true else sets l0 (cl.take k)
def chk1 (md : Region.Mode) (ops : Array Oper) (ds : List Nat) (l0 lf : Array Bool) (cl : List Nat) (i1 : Nat) : Bool :=
  (mk1 l0 cl i1 cl.length true == lf) && (cl.all (fun i => !ds.contains i) && (!ds.contains i1 && (List.range (cl.length + 1)).all fun k => [false, true].all fun b1 =>
    (k == cl.length && b1) || (!(Region.ready md ops (mk1 l0 cl i1 k b1)).isEmpty && ((Region.ready md ops (mk1 l0 cl i1 k b1)).all (fun i => cl[k]? == some i || (!b1 && i == i1)) &&
      ((cl.drop k).take 1).all (fun i => mk1 l0 cl i1 (k + 1) b1 == (mk1 l0 cl i1 k b1).setIfInBounds i true) && (b1 || mk1 l0 cl i1 k true == (mk1 l0 cl i1 k b1).setIfInBounds i1 true)))))
def Call1 (P : Program) (ops : Array Oper) (Q : Exit → Act → World → Prop) (a : Act) (n1 : Tmp) (VS : Nat → List (Tmp × Value) → Prop) (T : World → Prop) (k i : Nat) : Prop :=
  ∃ o N, ops[i]? = some o ∧ o.dst = some N ∧ N ≠ n1 ∧ ∀ l, VS k l → ∀ x Az, Az = (putAll a l).put (some n1) x → ∀ w, T w → ∀ K : Act → World → Prop,
    (∀ v w', VS (k + 1) (l ++ [(N, v)]) → Below w.heap.size w w' → K (Az.put (some N) v) w') →
    if Region.wanted o (yielded ops Az.tmps) = true then Oper.wp P o Az w K Q else K (Az.put (some N) undef) w
theorem chain1 {a : Act} {w : World} {l0 : Array Bool} {fuel : Nat} (cl : List Nat) (i1 : Nat) (n1 : Tmp) (o1 : Oper) (Z1 : Obj) (lf : Array Bool) (f : Nat) (VS : Nat → List (Tmp × Value) → Prop) (T : World → Prop) (lo : Nat)
    (hc : chk1 md ops ds l0 lf cl i1 = true) (hfu : fuel = f + (cl.length + 1)) (ho1 : ops[i1]? = some o1) (hd1 : o1.dst = some n1) (hg1 : o1.guard = none)
    (hz1 : ∀ ρ w, (execOp ρ o1).run P w = .ok (.value (ptr w.heap.size)) (w.alloc Z1))
    (hTS : ∀ w, T w → S w) (hT : ∀ w w', T w → Below w.heap.size w w' → T w') (hlo : ∀ w, T w → lo ≤ w.heap.size)
    (hV : VS 0 []) (ha : a.put (some n1) undef = a) (hw : T w)
    (hB : Each (Call1 P ops Q a n1 VS T) 0 cl)
    (hfin : ∀ l g1 w, VS cl.length l → T w → w.heap[g1]? = some Z1 → lo ≤ g1 → wpAnyLast P md ops Q S ds f lf ((putAll a l).put (some n1) (ptr g1)) w) :
    wpAnyLast P md ops Q S ds fuel l0 a w := by
  subst hfu
  simp only [chk1, Bool.and_eq_true, beq_iff_eq, List.all_eq_true] at hc
  obtain ⟨hlf, hdc, hd1s, hall⟩ := hc
  have hall2 : ∀ k, k ≤ cl.length → ∀ b1 : Bool, ¬ (k = cl.length ∧ b1 = true) → Region.ready md ops (mk1 l0 cl i1 k b1) ≠ [] ∧ (∀ i, i ∈ Region.ready md ops (mk1 l0 cl i1 k b1) → cl[k]? = some i ∨ (b1 = false ∧ i = i1)) ∧
      (∀ i, cl[k]? = some i → mk1 l0 cl i1 (k + 1) b1 = (mk1 l0 cl i1 k b1).setIfInBounds i true) ∧ (b1 = false → mk1 l0 cl i1 k true = (mk1 l0 cl i1 k b1).setIfInBounds i1 true) := by
    intro k hk b1 hn
    have h := hall k (List.mem_range.2 (by omega)) b1 (by cases b1 <;> simp)
    simp only [Bool.or_eq_true, Bool.and_eq_true, beq_iff_eq, Bool.not_eq_true', List.all_eq_true, List.isEmpty_eq_false_iff] at h
    rcases h with h | ⟨h1, ⟨h2, h3⟩, h4⟩
    · exact absurd h hn
    · refine ⟨h1, fun i hi => ?_, fun i hi => ?_, fun hb => ?_⟩
      · rcases h2 i hi with h | h
        · exact Or.inl h
        · exact Or.inr h
      · refine h3 i ?_
        rw [List.take_one, List.head?_drop, hi]; simp
      · rcases h4 with h | h
        · rw [hb] at h; exact absurd h (by decide)
        · exact h
  have key := dag (P := P) (md := md) (ops := ops) (Q := Q) (S := S) (ds := ds) (σ := { s : Nat × Bool // s.1 ≤ cl.length })
    (fun s => mk1 l0 cl i1 s.1.1 s.1.2) (fun s => (cl.length - s.1.1) + (if s.1.2 then 0 else 1))
    (fun s a' w' => T w' ∧ ∃ l x, VS s.1.1 l ∧ a' = (putAll a l).put (some n1) x ∧ (s.1.2 = false → x = undef) ∧ (s.1.2 = true → ∃ g, x = ptr g ∧ w'.heap[g]? = some Z1 ∧ lo ≤ g)) f
    (fun s a' w' h => hTS w' h.1)
    (fun s hs => (hall2 s.1.1 s.2 s.1.2 (fun h => by obtain ⟨h1, h2⟩ := h; rw [h1, h2] at hs; simp at hs)).1) ?_ ?_ (cl.length + 1) ⟨(0, false), Nat.zero_le _⟩ (by simp) a w
    ⟨hw, [], undef, hV, ha.symm, fun _ => rfl, fun h => absurd (show false = true from h) (by decide)⟩
  · exact key
  · rintro ⟨⟨k, b1⟩, hk⟩ hs i hi
    have hk : k ≤ cl.length := hk
    have hs : cl.length - k + (if b1 = true then 0 else 1) ≠ 0 := hs
    have hi : i ∈ Region.ready md ops (mk1 l0 cl i1 k b1) := hi
    obtain ⟨_, h2, h3, h4⟩ := hall2 k hk b1 (fun h => by obtain ⟨h1, h2⟩ := h; rw [h1, h2] at hs; simp at hs)
    rcases h2 i hi with hcl | ⟨hb, rfl⟩
    · have hkl : k < cl.length := by
        rcases Nat.lt_or_ge k cl.length with h | h
        · exact h
        · rw [List.getElem?_eq_none h] at hcl; cases hcl
      obtain ⟨o, N, ho, hN, hn, hcall⟩ := Each.get cl 0 k i hB hcl
      rw [Nat.zero_add] at hcall
      refine ⟨fun hm => ?_, o, ⟨(k + 1, b1), hkl⟩, ho, h3 i hcl, ?_, ?_⟩
      · have := hdc i (List.mem_of_getElem? hcl)
        simp at this; exact this hm
      · show cl.length - (k + 1) + (if b1 = true then 0 else 1) + 1 = cl.length - k + (if b1 = true then 0 else 1)
        omega
      · rintro a' w' ⟨hTw, l, x, hv, rfl, hx0, hx1⟩ K hK
        rw [hN]
        refine hcall l hv x _ rfl w' hTw K (fun v w'' hv' hb' => ?_)
        refine hK _ _ ⟨hT _ _ hTw hb', l ++ [(N, v)], x, hv', ?_, hx0, fun h => ?_⟩
        · rw [putAll_snoc, put_comm _ _ _ _ _ hn.symm]
        · obtain ⟨g, e, hg, hl⟩ := hx1 h
          exact ⟨g, e, blk_below hg hb', hl⟩
    · subst hb
      refine ⟨fun hm => ?_, o1, ⟨(k, true), hk⟩, ho1, h4 rfl, ?_, ?_⟩
      · simp at hd1s; exact hd1s hm
      · show cl.length - k + (if true = true then 0 else 1) + 1 = cl.length - k + (if false = true then 0 else 1)
        simp
      · rintro a' w' ⟨hTw, l, x, hv, rfl, hx0, hx1⟩ K hK
        have hwant : Region.wanted o1 (yielded ops ((putAll a l).put (some n1) x).tmps) = true := by unfold Region.wanted; rw [hg1]
        rw [if_pos hwant]
        unfold Oper.wp
        rw [hz1]
        refine hK _ _ ⟨hT _ _ hTw (below_alloc (Below.refl _ _) _), l, ptr w'.heap.size, hv, ?_, fun h => absurd (show true = false from h) (by decide), fun _ => ⟨_, rfl, ?_, hlo _ hTw⟩⟩
        · rw [hd1, put_put]
        · exact blk_new w' Z1
  · rintro ⟨⟨k, b1⟩, hk⟩ hs a' w' ⟨hTw, l, x, hv, rfl, hx0, hx1⟩
    have hs : cl.length - k + (if b1 = true then 0 else 1) = 0 := hs
    have hk : k ≤ cl.length := hk
    have hb : b1 = true := by cases b1 <;> simp at hs ⊢
    subst hb
    obtain rfl : k = cl.length := by simp at hs; omega
    obtain ⟨g, rfl, hg, hl⟩ := hx1 rfl
    show wpAnyLast P md ops Q S ds f (mk1 l0 cl i1 cl.length true) _ _
    rw [hlf]
    exact hfin l g w' hv hTw hg hl
def st2 (l : Array Bool) (i : Nat) (b : Bool) : Array Bool := if b then l.setIfInBounds i true else l
def mk2 (l0 : Array Bool) (cl : List Nat) (i1 i2 k : Nat) (b1 b2 : Bool) : Array Bool := st2 (st2 (sets l0 (cl.take k)) i1 b1) i2 b2
def chk2 (md : Region.Mode) (ops : Array Oper) (ds : List Nat) (l0 lf : Array Bool) (cl : List Nat) (i1 i2 : Nat) : Bool :=
  (mk2 l0 cl i1 i2 cl.length true true == lf) && (cl.all (fun i => !ds.contains i) && (!ds.contains i1 && (!ds.contains i2 && (List.range (cl.length + 1)).all fun k => [false, true].all fun b1 => [false, true].all fun b2 =>
    (k == cl.length && (b1 && b2)) || (!(Region.ready md ops (mk2 l0 cl i1 i2 k b1 b2)).isEmpty && ((Region.ready md ops (mk2 l0 cl i1 i2 k b1 b2)).all (fun i => cl[k]? == some i || ((!b1 && i == i1) || (!b2 && i == i2))) &&
      (((cl.drop k).take 1).all (fun i => mk2 l0 cl i1 i2 (k + 1) b1 b2 == (mk2 l0 cl i1 i2 k b1 b2).setIfInBounds i true) && ((b1 || mk2 l0 cl i1 i2 k true b2 == (mk2 l0 cl i1 i2 k b1 b2).setIfInBounds i1 true) && (b2 || mk2 l0 cl i1 i2 k b1 true == (mk2 l0 cl i1 i2 k b1 b2).setIfInBounds i2 true))))))))
def pz (A : Act) (n1 n2 : Tmp) (x y : Value) : Act := (A.put (some n1) x).put (some n2) y
theorem pz_x (A : Act) (n1 n2 : Tmp) (x y u : Value) (h : n1 ≠ n2) : (pz A n1 n2 x y).put (some n1) u = pz A n1 n2 u y := by
  unfold pz; rw [put_comm _ n2 n1 _ _ h.symm, put_put]
theorem pz_y (A : Act) (n1 n2 : Tmp) (x y u : Value) : (pz A n1 n2 x y).put (some n2) u = pz A n1 n2 x u := by
  unfold pz; rw [put_put]
theorem pz_put (A : Act) (n1 n2 N : Tmp) (x y v : Value) (h1 : N ≠ n1) (h2 : N ≠ n2) : (pz A n1 n2 x y).put (some N) v = pz (A.put (some N) v) n1 n2 x y := by
  unfold pz; rw [put_comm _ n2 N _ _ h2.symm, put_comm _ n1 N _ _ h1.symm]
def Call2 (P : Program) (ops : Array Oper) (Q : Exit → Act → World → Prop) (a : Act) (n1 n2 : Tmp) (VS : Nat → List (Tmp × Value) → Prop) (T : World → Prop) (k i : Nat) : Prop :=
  ∃ o N, ops[i]? = some o ∧ o.dst = some N ∧ N ≠ n1 ∧ N ≠ n2 ∧ ∀ l, VS k l → ∀ x y Az, Az = pz (putAll a l) n1 n2 x y → ∀ w, T w → ∀ K : Act → World → Prop,
    (∀ v w', VS (k + 1) (l ++ [(N, v)]) → Below w.heap.size w w' → K (Az.put (some N) v) w') →
    if Region.wanted o (yielded ops Az.tmps) = true then Oper.wp P o Az w K Q else K (Az.put (some N) undef) w
theorem chain2 {a : Act} {w : World} {l0 : Array Bool} {fuel : Nat} (cl : List Nat) (i1 i2 : Nat) (n1 n2 : Tmp) (o1 o2 : Oper) (Z1 Z2 : Obj) (lf : Array Bool) (f : Nat) (VS : Nat → List (Tmp × Value) → Prop) (T : World → Prop) (lo : Nat)
    (hc : chk2 md ops ds l0 lf cl i1 i2 = true) (hfu : fuel = f + (cl.length + 2)) (ho1 : ops[i1]? = some o1) (ho2 : ops[i2]? = some o2) (hd1 : o1.dst = some n1) (hd2 : o2.dst = some n2) (hg1 : o1.guard = none) (hg2 : o2.guard = none) (hn12 : n1 ≠ n2)
    (hz1 : ∀ ρ w, (execOp ρ o1).run P w = .ok (.value (ptr w.heap.size)) (w.alloc Z1)) (hz2 : ∀ ρ w, (execOp ρ o2).run P w = .ok (.value (ptr w.heap.size)) (w.alloc Z2))
    (hTS : ∀ w, T w → S w) (hT : ∀ w w', T w → Below w.heap.size w w' → T w') (hlo : ∀ w, T w → lo ≤ w.heap.size)
    (hV : VS 0 []) (ha : pz a n1 n2 undef undef = a) (hw : T w)
    (hB : Each (Call2 P ops Q a n1 n2 VS T) 0 cl)
    (hfin : ∀ l g1 g2 w, VS cl.length l → T w → w.heap[g1]? = some Z1 → w.heap[g2]? = some Z2 → lo ≤ g1 → lo ≤ g2 → g1 ≠ g2 → wpAnyLast P md ops Q S ds f lf (pz (putAll a l) n1 n2 (ptr g1) (ptr g2)) w) :
    wpAnyLast P md ops Q S ds fuel l0 a w := by
  subst hfu
  simp only [chk2, Bool.and_eq_true, beq_iff_eq, List.all_eq_true] at hc
  obtain ⟨hlf, hdc, hd1s, hd2s, hall⟩ := hc
  have hall2 : ∀ k, k ≤ cl.length → ∀ b1 b2 : Bool, ¬ (k = cl.length ∧ b1 = true ∧ b2 = true) → Region.ready md ops (mk2 l0 cl i1 i2 k b1 b2) ≠ [] ∧ (∀ i, i ∈ Region.ready md ops (mk2 l0 cl i1 i2 k b1 b2) → cl[k]? = some i ∨ ((b1 = false ∧ i = i1) ∨ (b2 = false ∧ i = i2))) ∧
      (∀ i, cl[k]? = some i → mk2 l0 cl i1 i2 (k + 1) b1 b2 = (mk2 l0 cl i1 i2 k b1 b2).setIfInBounds i true) ∧ (b1 = false → mk2 l0 cl i1 i2 k true b2 = (mk2 l0 cl i1 i2 k b1 b2).setIfInBounds i1 true) ∧ (b2 = false → mk2 l0 cl i1 i2 k b1 true = (mk2 l0 cl i1 i2 k b1 b2).setIfInBounds i2 true) := by
    intro k hk b1 b2 hn
    have h := hall k (List.mem_range.2 (by omega)) b1 (by cases b1 <;> simp) b2 (by cases b2 <;> simp)
    simp only [Bool.or_eq_true, Bool.and_eq_true, beq_iff_eq, Bool.not_eq_true', List.all_eq_true, List.isEmpty_eq_false_iff] at h
    rcases h with h | ⟨h1, h2, h3, h4, h5⟩
    · exact absurd h hn
    · refine ⟨h1, h2, fun i hi => ?_, fun hb => ?_, fun hb => ?_⟩
      · refine h3 i ?_
        rw [List.take_one, List.head?_drop, hi]; simp
      · rcases h4 with h | h
        · rw [hb] at h; exact absurd h (by decide)
        · exact h
      · rcases h5 with h | h
        · rw [hb] at h; exact absurd h (by decide)
        · exact h
  have notin : ∀ i, (!ds.contains i) = true → i ∉ ds := fun i h hm => by simp at h; exact h hm
  have wants : ∀ (o : Oper) (A : Act), o.guard = none → Region.wanted o (yielded ops A.tmps) = true := fun o A h => by unfold Region.wanted; rw [h]
  have key := dag (P := P) (md := md) (ops := ops) (Q := Q) (S := S) (ds := ds) (σ := { s : Nat × Bool × Bool // s.1 ≤ cl.length })
    (fun s => mk2 l0 cl i1 i2 s.1.1 s.1.2.1 s.1.2.2) (fun s => (cl.length - s.1.1) + ((if s.1.2.1 then 0 else 1) + (if s.1.2.2 then 0 else 1)))
    (fun s a' w' => T w' ∧ ∃ l x y, VS s.1.1 l ∧ a' = pz (putAll a l) n1 n2 x y ∧ (s.1.2.1 = false → x = undef) ∧ (s.1.2.1 = true → ∃ g, x = ptr g ∧ w'.heap[g]? = some Z1 ∧ lo ≤ g) ∧ (s.1.2.2 = false → y = undef) ∧ (s.1.2.2 = true → ∃ g, y = ptr g ∧ w'.heap[g]? = some Z2 ∧ lo ≤ g) ∧ (s.1.2.1 = true → s.1.2.2 = true → x ≠ y)) f
    (fun s a' w' h => hTS w' h.1)
    (fun s hs => (hall2 s.1.1 s.2 s.1.2.1 s.1.2.2 (fun h => by obtain ⟨h1, h2, h3⟩ := h; rw [h1, h2, h3] at hs; simp at hs)).1) ?_ ?_ (cl.length + 2) ⟨(0, false, false), Nat.zero_le _⟩ (by simp) a w
    ⟨hw, [], undef, undef, hV, ha.symm, fun _ => rfl, fun h => absurd (show false = true from h) (by decide), fun _ => rfl, fun h => absurd (show false = true from h) (by decide), fun h => absurd (show false = true from h) (by decide)⟩
  · exact key
  · rintro ⟨⟨k, b1, b2⟩, hk⟩ hs i hi
    have hk : k ≤ cl.length := hk
    have hs : cl.length - k + ((if b1 = true then 0 else 1) + (if b2 = true then 0 else 1)) ≠ 0 := hs
    have hi : i ∈ Region.ready md ops (mk2 l0 cl i1 i2 k b1 b2) := hi
    obtain ⟨_, h2, h3, h4, h5⟩ := hall2 k hk b1 b2 (fun h => by obtain ⟨h1, h2, h3⟩ := h; rw [h1, h2, h3] at hs; simp at hs)
    rcases h2 i hi with hcl | ⟨hb, rfl⟩ | ⟨hb, rfl⟩
    · have hkl : k < cl.length := by
        rcases Nat.lt_or_ge k cl.length with h | h
        · exact h
        · rw [List.getElem?_eq_none h] at hcl; cases hcl
      obtain ⟨o, N, ho, hN, hn1, hn2, hcall⟩ := Each.get cl 0 k i hB hcl
      rw [Nat.zero_add] at hcall
      refine ⟨notin i (hdc i (List.mem_of_getElem? hcl)), o, ⟨(k + 1, b1, b2), hkl⟩, ho, h3 i hcl, ?_, ?_⟩
      · show cl.length - (k + 1) + ((if b1 = true then 0 else 1) + (if b2 = true then 0 else 1)) + 1 = cl.length - k + ((if b1 = true then 0 else 1) + (if b2 = true then 0 else 1))
        omega
      · rintro a' w' ⟨hTw, l, x, y, hv, rfl, hx0, hx1, hy0, hy1, hxy⟩ K hK
        rw [hN]
        refine hcall l hv x y _ rfl w' hTw K (fun v w'' hv' hb' => ?_)
        refine hK _ _ ⟨hT _ _ hTw hb', l ++ [(N, v)], x, y, hv', ?_, hx0, fun h => ?_, hy0, fun h => ?_, hxy⟩
        · rw [putAll_snoc, pz_put _ _ _ _ _ _ _ hn1 hn2]
        · obtain ⟨g, e, hg, hl⟩ := hx1 h
          exact ⟨g, e, blk_below hg hb', hl⟩
        · obtain ⟨g, e, hg, hl⟩ := hy1 h
          exact ⟨g, e, blk_below hg hb', hl⟩
    · subst hb
      refine ⟨notin i hd1s, o1, ⟨(k, true, b2), hk⟩, ho1, h4 rfl, ?_, ?_⟩
      · show cl.length - k + ((if true = true then 0 else 1) + (if b2 = true then 0 else 1)) + 1 = cl.length - k + ((if false = true then 0 else 1) + (if b2 = true then 0 else 1))
        simp; omega
      · rintro a' w' ⟨hTw, l, x, y, hv, rfl, hx0, hx1, hy0, hy1, hxy⟩ K hK
        rw [if_pos (wants o1 _ hg1)]
        unfold Oper.wp
        rw [hz1]
        refine hK _ _ ⟨hT _ _ hTw (below_alloc (Below.refl _ _) _), l, ptr w'.heap.size, y, hv, ?_, fun h => absurd (show true = false from h) (by decide), fun _ => ⟨_, rfl, blk_new w' Z1, hlo _ hTw⟩, hy0, fun h => ?_, fun _ h => ?_⟩
        · rw [hd1, pz_x _ _ _ _ _ _ hn12]
        · obtain ⟨g, e, hg, hl⟩ := hy1 h
          exact ⟨g, e, blk_alloc hg _, hl⟩
        · obtain ⟨g, e, hg, hl⟩ := hy1 h
          have := ne_of_blk hg
          rw [e]; intro he
          unfold ptr at he
          simp at he
    · subst hb
      refine ⟨notin i hd2s, o2, ⟨(k, b1, true), hk⟩, ho2, h5 rfl, ?_, ?_⟩
      · show cl.length - k + ((if b1 = true then 0 else 1) + (if true = true then 0 else 1)) + 1 = cl.length - k + ((if b1 = true then 0 else 1) + (if false = true then 0 else 1))
        simp; omega
      · rintro a' w' ⟨hTw, l, x, y, hv, rfl, hx0, hx1, hy0, hy1, hxy⟩ K hK
        rw [if_pos (wants o2 _ hg2)]
        unfold Oper.wp
        rw [hz2]
        refine hK _ _ ⟨hT _ _ hTw (below_alloc (Below.refl _ _) _), l, x, ptr w'.heap.size, hv, ?_, hx0, fun h => ?_, fun h => absurd (show true = false from h) (by decide), fun _ => ⟨_, rfl, blk_new w' Z2, hlo _ hTw⟩, fun h _ => ?_⟩
        · rw [hd2, pz_y]
        · obtain ⟨g, e, hg, hl⟩ := hx1 h
          exact ⟨g, e, blk_alloc hg _, hl⟩
        · obtain ⟨g, e, hg, hl⟩ := hx1 h
          have := ne_of_blk hg
          rw [e]; intro he
          unfold ptr at he
          simp at he
  · rintro ⟨⟨k, b1, b2⟩, hk⟩ hs a' w' ⟨hTw, l, x, y, hv, rfl, hx0, hx1, hy0, hy1, hxy⟩
    have hs : cl.length - k + ((if b1 = true then 0 else 1) + (if b2 = true then 0 else 1)) = 0 := hs
    have hk : k ≤ cl.length := hk
    have hb : b1 = true := by cases b1 <;> simp at hs ⊢
    subst hb
    have hb : b2 = true := by cases b2 <;> simp at hs ⊢
    subst hb
    obtain rfl : k = cl.length := by simp at hs; omega
    obtain ⟨g1, rfl, hg1, hl1⟩ := hx1 rfl
    obtain ⟨g2, rfl, hg2, hl2⟩ := hy1 rfl
    show wpAnyLast P md ops Q S ds f (mk2 l0 cl i1 i2 cl.length true true) _ _
    rw [hlf]
    exact hfin l g1 g2 w' hv hTw hg1 hg2 hl1 hl2 (fun e => hxy rfl rfl (by rw [e]))
theorem ne_new {W : World} {g g1 : Nat} {o : Obj} (h : W.heap[g]? = some o) (h2 : W.heap.size ≤ g1) : g ≠ g1 := by
  have := (Array.getElem?_eq_some_iff.1 h).1
  omega
theorem ch1 {a : Act} {w : World} {l0 : Array Bool} {fuel : Nat} (cl : List Nat) (m : Nat) (hm : cl.length = m) (i1 : Nat) (n1 : Tmp) (o1 : Oper) (Z1 : Obj) (lf : Array Bool) (f : Nat) (VS : Nat → List (Tmp × Value) → Prop)
    (hc : chk1 md ops ds l0 lf cl i1 = true) (hfu : fuel = f + (cl.length + 1)) (ho1 : ops[i1]? = some o1) (hd1 : o1.dst = some n1) (hg1 : o1.guard = none)
    (hz1 : ∀ ρ w, (execOp ρ o1).run P w = .ok (.value (ptr w.heap.size)) (w.alloc Z1))
    (hT : ∀ w w', S w → Below w.heap.size w w' → S w')
    (hV : VS 0 []) (ha : a.put (some n1) undef = a) (hw : S w)
    (hB : Each (Call1 P ops Q a n1 VS S) 0 cl)
    (hfin : ∀ l g1 Az w', VS m l → Az = (putAll a l).put (some n1) (ptr g1) → S w' → w'.heap[g1]? = some Z1 → w.heap.size ≤ g1 → wpAnyLast P md ops Q S ds f lf Az w') :
    wpAnyLast P md ops Q S ds fuel l0 a w :=
  chain1 cl i1 n1 o1 Z1 lf f VS (fun w' => S w' ∧ w.heap.size ≤ w'.heap.size) w.heap.size hc hfu ho1 hd1 hg1 hz1 (fun _ h => h.1) (fun _ _ h hb => ⟨hT _ _ h.1 hb, Nat.le_trans h.2 hb.size⟩) (fun _ h => h.2) hV ha ⟨hw, Nat.le_refl _⟩
    (each_mono cl 0 hB (fun k i h => by
      obtain ⟨o, N, h1, h2, h3, h4⟩ := h
      exact ⟨o, N, h1, h2, h3, fun l hl x Az hAz w1 hT1 K hK => h4 l hl x Az hAz w1 hT1.1 K hK⟩))
    (fun l g1 w' h1 h2 h3 h4 => hfin l g1 _ w' (hm ▸ h1) rfl h2.1 h3 h4)
theorem ch2 {a : Act} {w : World} {l0 : Array Bool} {fuel : Nat} (cl : List Nat) (m : Nat) (hm : cl.length = m) (i1 i2 : Nat) (n1 n2 : Tmp) (o1 o2 : Oper) (Z1 Z2 : Obj) (lf : Array Bool) (f : Nat) (VS : Nat → List (Tmp × Value) → Prop)
    (hc : chk2 md ops ds l0 lf cl i1 i2 = true) (hfu : fuel = f + (cl.length + 2)) (ho1 : ops[i1]? = some o1) (ho2 : ops[i2]? = some o2) (hd1 : o1.dst = some n1) (hd2 : o2.dst = some n2) (hg1 : o1.guard = none) (hg2 : o2.guard = none) (hn12 : n1 ≠ n2)
    (hz1 : ∀ ρ w, (execOp ρ o1).run P w = .ok (.value (ptr w.heap.size)) (w.alloc Z1)) (hz2 : ∀ ρ w, (execOp ρ o2).run P w = .ok (.value (ptr w.heap.size)) (w.alloc Z2))
    (hT : ∀ w w', S w → Below w.heap.size w w' → S w')
    (hV : VS 0 []) (ha : pz a n1 n2 undef undef = a) (hw : S w)
    (hB : Each (Call2 P ops Q a n1 n2 VS S) 0 cl)
    (hfin : ∀ l g1 g2 Az w', VS m l → Az = pz (putAll a l) n1 n2 (ptr g1) (ptr g2) → S w' → w'.heap[g1]? = some Z1 → w'.heap[g2]? = some Z2 → w.heap.size ≤ g1 → w.heap.size ≤ g2 → g1 ≠ g2 → wpAnyLast P md ops Q S ds f lf Az w') :
    wpAnyLast P md ops Q S ds fuel l0 a w :=
  chain2 cl i1 i2 n1 n2 o1 o2 Z1 Z2 lf f VS (fun w' => S w' ∧ w.heap.size ≤ w'.heap.size) w.heap.size hc hfu ho1 ho2 hd1 hd2 hg1 hg2 hn12 hz1 hz2 (fun _ h => h.1) (fun _ _ h hb => ⟨hT _ _ h.1 hb, Nat.le_trans h.2 hb.size⟩) (fun _ h => h.2) hV ha ⟨hw, Nat.le_refl _⟩
    (each_mono cl 0 hB (fun k i h => by
      obtain ⟨o, N, h1, h2, h3, h4, h5⟩ := h
      exact ⟨o, N, h1, h2, h3, h4, fun l hl x y Az hAz w1 hT1 K hK => h5 l hl x y Az hAz w1 hT1.1 K hK⟩))
    (fun l g1 g2 w' h1 h2 h3 h4 h5 h6 h7 => hfin l g1 g2 _ w' (hm ▸ h1) rfl h2.1 h3 h4 h5 h6 h7)
end Go.Proofs.Ytlajcahlmbjmnaa.StChain
