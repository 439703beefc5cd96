/- Plain facts: what the statement's reading of an argument (slices, structs, strings, numbers, nested) says of its cells, in the printer's own words for kinds; no condition beyond the reading's own. -/
import Derived.Test.YthacgkafdjnppaaVAll
import Derived.ChangeArms
import Derived.Deep.Slices
import Derived.SizedLaws
import Derived.RowKit
import Derived.Lib.Bytealg
import Derived.WalkSpells
import Derived.Lib.SliceRun
import Derived.Shelf.Strings.Search1
namespace Go.Proofs.Ythacgkafdjnppaa.Open
open Go.RowKit Go.ChangeShapes Go.WideShapes Go.Deep Go.Proofs.YthacgkafdjnppaaW.PrintWords
structure OpensAt (m : Nat) (P : Program) (t : TypeId) {α : Type} (d : Kd α) (Wf : α → Prop) : Prop where
  sz : P.cellsOf t = d.sz
  op : ∀ {H : Type} {enc : TypeId × Value → H} {w : World} {base : Nat} {spare : Nat → Bool} {held : Bool} {fuel : Nat} {cs : List Value} {x : DataW H × List MemPlace},
    fuel ≤ m → DataW.trod enc P w base spare held fuel t cs = some x → (∀ n ∈ x.1.weights P t, n ≤ reachBytes) → ∃ a, d.K w a cs ∧ Wf a
section
variable {m : Nat} {P : Program} {t e : TypeId} {α β : Type} {d : Kd α} {Wf Wf' : α → Prop}
theorem OpensAt.imp (h : OpensAt m P t d Wf) (hw : ∀ a, Wf a → Wf' a) : OpensAt m P t d Wf' :=
  ⟨h.sz, fun hf ht hn => let ⟨a, ha, hb⟩ := h.op hf ht hn; ⟨a, ha, hw a hb⟩⟩
theorem OpensAt.le {m' : Nat} (h : OpensAt m P t d Wf) (hm : m' ≤ m) : OpensAt m' P t d Wf :=
  ⟨h.sz, fun hf ht hn => h.op (Nat.le_trans hf hm) ht hn⟩
theorem OpensAt.int {k : IntKind} (ht : P.underlying t = some (.int k)) (hc : P.cellsOf t = 1) : OpensAt m P t (Kd.int k) (fun n => (Lit.int k n).wf = true) := by
  refine ⟨hc, fun {H enc w base spare held fuel cs x} hf h hn => ?_⟩
  cases fuel with
  | zero => simp [DataW.trod] at h
  | succ n =>
    unfold DataW.trod at h
    rw [ht] at h
    split at h <;> simp_all
    obtain ⟨⟨rfl, hw⟩, _⟩ := h
    exact ⟨_, rfl, hw⟩
theorem OpensAt.bool (ht : P.underlying t = some .bool) (hc : P.cellsOf t = 1) : OpensAt m P t Kd.bool (fun _ => True) := by
  refine ⟨hc, fun {H enc w base spare held fuel cs x} hf h hn => ?_⟩
  cases fuel with
  | zero => simp [DataW.trod] at h
  | succ n =>
    unfold DataW.trod at h
    rw [ht] at h
    split at h
    all_goals first | exact ⟨_, rfl, trivial⟩ | simp_all
theorem OpensAt.string (ht : P.underlying t = some .string) (hc : P.cellsOf t = 1) : OpensAt m P t Kd.string (fun s => s.size ≤ 140737488351232) := by
  refine ⟨hc, fun {H enc w base spare held fuel cs x} hf h hn => ?_⟩
  cases fuel with
  | zero => simp [DataW.trod] at h
  | succ n =>
    unfold DataW.trod at h
    rw [ht] at h
    split at h <;> simp_all
    obtain ⟨_, rfl⟩ := h
    refine ⟨_, rfl, ?_⟩
    have := hn _ (by simp [DataW.weights]; rfl)
    simpa [reachBytes] using this
theorem weights_all {H : Type} {ds : List (DataW H)} {y : DataW H} (hy : y ∈ ds) : ∀ n ∈ y.weights P e, n ∈ DataW.weightsAll P e ds := by
  induction ds with
  | nil => cases hy
  | cons z ds ih =>
    intro n hn
    simp only [DataW.weightsAll, List.mem_append]
    rcases List.mem_cons.1 hy with rfl | hy
    · exact .inl hn
    · exact .inr (ih hy n hn)
theorem family {n : Nat} {p : Nat → α → Prop} (h : ∀ i, i < n → ∃ x, p i x) : ∃ l : List α, l.length = n ∧ ∀ i x, l[i]? = some x → p i x := by
  induction n with
  | zero => exact ⟨[], rfl, fun i x hx => by simp at hx⟩
  | succ n ih =>
    obtain ⟨l, hl, hp⟩ := ih (fun i hi => h i (by omega))
    obtain ⟨x, hx⟩ := h n (by omega)
    refine ⟨l ++ [x], by simp [hl], fun i y hy => ?_⟩
    by_cases hi : i < l.length
    · rw [List.getElem?_append_left hi] at hy; exact hp i y hy
    · have hi2 := (List.getElem?_eq_some_iff.1 hy).1
      have : i = n := by simp [hl] at hi hi2; omega
      subst this
      rw [← hl] at hy
      simp at hy
      subst hy
      exact hx
theorem OpensAt.slice {B : Nat} (h : OpensAt m P e d Wf) (ht : P.underlying t = some (.slice e)) (hc : P.cellsOf t = 1) (hB : P.bytesOf e = B) :
    OpensAt (m + 1) P t (Kd.slice e d) (fun l => l.length ≤ maxLen ∧ l.length * B ≤ 140737488351232 ∧ ∀ a ∈ l, Wf a) := by
  refine ⟨hc, fun {H enc w base spare held fuel cs x} hf hx hn => ?_⟩
  rcases DataW.trod_slice ht hx with ⟨rfl, rfl⟩ | ⟨a, len, cap, elems, rest, n, rfl, rfl, rfl, hb, hl, hm, hlen, hel, _, _⟩
  · exact ⟨[], ⟨none, 0, rfl, Nat.le_refl _, ⟨rfl, by simp, fun h => absurd h (by simp)⟩⟩, by simp [maxLen], by simp, fun a ha => by cases ha⟩
  · have hwt : ∀ n ∈ (elems.length + rest.length) * P.bytesOf e :: (DataW.weightsAll P e (elems.map (·.1)) ++ DataW.weightsAll P e (rest.map (·.1))), n ≤ reachBytes := by
      have := hn
      simp only [DataW.weights, ht, List.length_map] at this
      exact this
    have hone : ∀ i, i < len → ∃ y : α × List Value, d.K w y.1 y.2 ∧ Wf y.1 ∧ w.cells? base (a.add (i * P.cellsOf e)) (P.cellsOf e) = some y.2 := by
      intro i hi
      have h1 := hel i hi
      rw [List.getElem?_eq_getElem (by omega)] at h1
      obtain ⟨cs', h2, h3⟩ := Option.bind_eq_some_iff.1 h1
      obtain ⟨y, hy, hw⟩ := h.op (by omega) h3 (fun n hn => hwt n (List.mem_cons_of_mem _ (List.mem_append_left _ (weights_all (List.mem_map_of_mem (List.getElem_mem _)) n hn))))
      exact ⟨(y, cs'), hy, hw, h2⟩
    obtain ⟨l, hll, hp⟩ := family hone
    refine ⟨l.map (·.1), ⟨some a, cap, by rw [List.length_map, hll], by rw [List.length_map, hll]; exact hl, ?_⟩, by rw [List.length_map, hll]; exact Nat.le_trans hl hm, ?_, ?_⟩
    · refine ⟨rfl, by rw [List.length_map, hll]; have := Nat.le_trans hl hm; simpa [maxLen] using this, fun _ => ⟨a, rfl, fun j p hj => ?_⟩⟩
      rw [List.getElem?_map, Option.map_eq_some_iff] at hj
      obtain ⟨y, hy, rfl⟩ := hj
      obtain ⟨hk, _, hcs⟩ := hp j y hy
      obtain ⟨_, hle, hcell⟩ := World.cells?_some hcs
      refine ⟨y.2, d.K_len hk, hk, fun i u hu => ?_⟩
      have hi : i < P.cellsOf e := by
        have := (List.getElem?_eq_some_iff.1 hu).1
        omega
      have := hcell i hi
      rw [hu] at this
      rw [← h.sz, ← Go.Deep.add_add]
      exact this
    · have := hwt _ (List.mem_cons_self ..)
      rw [List.length_map, hll, ← hlen]
      rw [hB] at this
      have h2 : elems.length * B ≤ (elems.length + rest.length) * B := Nat.mul_le_mul_right _ (Nat.le_add_right _ _)
      simp only [reachBytes] at this
      omega
    · intro y hy
      obtain ⟨z, hz, rfl⟩ := List.mem_map.1 hy
      obtain ⟨i, hi, rfl⟩ := List.getElem_of_mem hz
      exact (hp i _ (List.getElem?_eq_getElem hi)).2.1
theorem R_one {e : TypeId} {w : World} {base : Nat} {ok : Nat → Prop} {v : Value} {xs : List α} (h : d.R e w base ok v xs) : v.oneCell' = true := by
  obtain ⟨A, c, rfl⟩ := Kd.R_slice h
  rfl
structure OpensF (m : Nat) (P : Program) (fs : List Field) (off : Nat) {α : Type} (d : Kd α) (Wf : α → Prop) : Prop where
  op : ∀ {H : Type} {enc : TypeId × Value → H} {w : World} {base : Nat} {spare : Nat → Bool} {held : Bool} {fuel : Nat} {cs : List Value} {xs : List (DataW H × List MemPlace)},
    fuel ≤ m → (∀ (i : Nat) (f : Field), fs[i]? = some f → DataW.trod enc P w base spare held fuel f.type ((cs.drop f.offset).take (P.cellsOf f.type)) = xs[i]?) → xs.length = fs.length →
    (∀ n ∈ DataW.weightsEach P (fs.map (·.type)) (xs.map (·.1)), n ≤ reachBytes) → ∃ a, d.K w a ((cs.drop off).take d.sz) ∧ Wf a
theorem OpensF.one {f : Field} {off : Nat} (h : OpensAt m P f.type d Wf) (ho : f.offset = off) : OpensF m P [f] off d Wf := by
  refine ⟨fun {H enc w base spare held fuel cs xs} hf hx hl hn => ?_⟩
  match xs, hl with
  | [x], _ =>
    have h0 := hx 0 f rfl
    rw [ho, h.sz] at h0
    exact h.op hf h0 (fun n hn' => hn n (by simp [DataW.weightsEach, hn']))
theorem OpensF.cons {f : Field} {fs : List Field} {off : Nat} {d2 : Kd β} {Wf2 : β → Prop} (h : OpensAt m P f.type d Wf) (ho : f.offset = off) (h2 : OpensF m P fs (off + d.sz) d2 Wf2) : OpensF m P (f :: fs) off (Kd.pair d d2) (fun p => Wf p.1 ∧ Wf2 p.2) := by
  refine ⟨fun {H enc w base spare held fuel cs xs} hf hx hl hn => ?_⟩
  match xs, hl with
  | x :: xs, hl =>
    have h0 := hx 0 f rfl
    rw [ho, h.sz] at h0
    obtain ⟨a, ha, hw⟩ := h.op hf h0 (fun n hn' => hn n (by simp [DataW.weightsEach, hn']))
    obtain ⟨b, hb, hw2⟩ := h2.op hf (fun i f' hf' => hx (i + 1) f' hf') (by simpa using hl) (fun n hn' => hn n (by simp [DataW.weightsEach, hn']))
    refine ⟨(a, b), ⟨_, _, ?_, ha, hb⟩, hw, hw2⟩
    show (cs.drop off).take (d.sz + d2.sz) = _
    rw [List.take_add, List.drop_drop]
theorem OpensAt.struct {fs : Array Field} (ht : P.underlying t = some (.struct fs)) (hc : P.cellsOf t = d.sz) (h : OpensF m P fs.toList 0 d Wf) : OpensAt (m + 1) P t d Wf := by
  refine ⟨hc, fun {H enc w base spare held fuel cs x} hf hx hn => ?_⟩
  obtain ⟨xs, n, rfl, rfl, hlen, hxl, hfs⟩ := DataW.trod_struct ht hx
  obtain ⟨a, ha, hw⟩ := h.op (by omega) (fun i f hf => hfs i f (by simpa using hf)) (by simpa using hxl) (fun n hn' => hn n (by simp only [DataW.weights, ht]; exact hn'))
  refine ⟨a, ?_, hw⟩
  rwa [List.drop_zero, List.take_of_length_le (by rw [hlen, hc]; exact Nat.le_refl _)] at ha
theorem OpensAt.iso {f : β → α} (g : α → β) (hg : ∀ a, f (g a) = a) (h : OpensAt m P t d Wf) : OpensAt m P t (Kd.iso d f) (fun b => Wf (f b)) := by
  refine ⟨h.sz, fun hf hx hn => ?_⟩
  obtain ⟨a, ha, hw⟩ := h.op hf hx hn
  refine ⟨g a, ?_, ?_⟩
  · show d.K _ (f (g a)) _
    rw [hg]; exact ha
  · show Wf (f (g a))
    rw [hg]; exact hw
theorem OpensAt.slices {B : Nat} (h : ∀ m, OpensAt m P e d Wf) (ht : P.underlying t = some (.slice e)) (hc : P.cellsOf t = 1) (hB : P.bytesOf e = B) :
    ∀ m, OpensAt m P t (Kd.slice e d) (fun l => l.length ≤ maxLen ∧ l.length * B ≤ 140737488351232 ∧ ∀ a ∈ l, Wf a) :=
  fun m => ((h m).slice ht hc hB).le (Nat.le_succ m)
theorem OpensAt.structs {fs : Array Field} (ht : P.underlying t = some (.struct fs)) (hc : P.cellsOf t = d.sz) (h : ∀ m, OpensF m P fs.toList 0 d Wf) : ∀ m, OpensAt m P t d Wf :=
  fun m => (OpensAt.struct ht hc (h m)).le (Nat.le_succ m)
theorem OpensAt.isos {f : β → α} (g : α → β) (hg : ∀ a, f (g a) = a) (h : ∀ m, OpensAt m P t d Wf) : ∀ m, OpensAt m P t (Kd.iso d f) (fun b => Wf (f b)) :=
  fun m => (h m).iso g hg
theorem OpensAt.arg {H : Type} {enc : TypeId × Value → H} {w : World} {base : Nat} {spare : Nat → Bool} {held : Bool} {v : Value} {y : DataW H} {ps : List MemPlace} (h : ∀ m, OpensAt m P t d Wf)
    {ts : List TypeId} {ds : List (DataW H)} {j : Nat} (hsz : (DataW.weightsEach P ts ds).all (· ≤ reachBytes) = true) (ht : ts[j]? = some t) (hd : ds[j]? = some y)
    (hv : DataW.Trod enc P w base spare held t v y ps) : ∃ a, d.K w a v.cells.toList ∧ Wf a := by
  obtain ⟨fuel, hf⟩ := hv
  refine (h fuel).op (Nat.le_refl _) hf (fun n hn => ?_)
  have := List.all_eq_true.1 hsz _ (DataW.weights_mem_each ht hd n hn)
  simpa using this
end
end Go.Proofs.Ythacgkafdjnppaa.Open
