/- Arrays in memory: a block of so many cells of one kind of number; what reading, writing, loading whole and storing whole do to it. -/
import Derived.Test.YtmkemagjedihmaaWMore
import Derived.Test.YtmkemagjedihmaaYLimb
import Derived.Laws.Externs
import Derived.BigRegion
import Derived.StillTailTactics
namespace Go.Proofs.Ytmkemagjedihmaa.Arr
open Go.RowKit Go.Proofs.YtmkemagjedihmaaW.PrintWords Go.Proofs.YtmkemagjedihmaaW.PrintLast Go.Proofs.YtmkemagjedihmaaW.PrintMore Go.Proofs.Ytmkemagjedihmaa.Limb
set_option linter.unusedVariables false

def arr (k : IntKind) (xs : List Int) : Array Value := (xs.map (Value.int k)).toArray
theorem arr_size (k : IntKind) (xs : List Int) : (arr k xs).size = xs.length := by simp [arr]
theorem arr_get (k : IntKind) (xs : List Int) (i : Nat) (h : i < xs.length) : (arr k xs)[i]? = some (.int k (xs.getD i 0)) := by
  simp [arr, List.getD_eq_getElem?_getD, List.getElem?_eq_getElem h]
theorem arr_set (k : IntKind) (xs : List Int) (i : Nat) (v : Int) : (arr k xs).setIfInBounds i (.int k v) = arr k (xs.set i v) := by
  simp [arr]
theorem arr_one (k : IntKind) (xs : List Int) : (arr k xs).all (·.oneCell') = true := by
  rw [Array.all_eq_true_iff_forall_mem]
  intro v hv
  simp only [arr, List.mem_toArray, List.mem_map] at hv
  obtain ⟨x, _, rfl⟩ := hv
  rfl
theorem blk_get {w : World} {g : Nat} {t : TypeId} {k : IntKind} {xs : List Int} (h : w.heap[g]? = some (.cells (arr k xs) t (0, 0))) (i : Nat) (hi : i < xs.length) : w.cell? ⟨g, i, none⟩ = some (.int k (xs.getD i 0)) := by
  rw [blk_cell h, arr_get _ _ _ hi]
theorem blk_upd {w : World} {g : Nat} {t : TypeId} {k : IntKind} {xs : List Int} (h : w.heap[g]? = some (.cells (arr k xs) t (0, 0))) (i : Nat) (v : Int) : (w.setCell ⟨g, i, none⟩ (.int k v)).heap[g]? = some (.cells (arr k (xs.set i v)) t (0, 0)) := blk_put h i _ (arr_set _ _ _ _)

section
variable {P : Program} {ops : Array Oper} {rest : List Oper} {o : Oper} {a : Act} {w : World} {Q : Exit → Act → World → Prop}
theorem ld_arr (hgd : o.guard = none) (ty : TypeId) (x : Operand) (ho : o.op = .load ty x) (g : Nat) (hx : a.eval x = .pointer (some ⟨g, 0, none⟩)) {t : TypeId} {k : IntKind} {xs : List Int} (hg : w.heap[g]? = some (.cells (arr k xs) t (0, 0)))
    {e : TypeId} {n : Nat} (hu : P.underlying ty = some (.array e n)) {m : Nat} (hi : (P.info? ty).map (·.size) = some m) (hm : xs.length = m) (h : wpList P ops Q rest (a.put o.dst (.agg (arr k xs))) w) : wpList P ops Q (o :: rest) a w :=
  wpList_load_row hgd ty x ho g hx t _ _ _ hg hu rfl (by rw [hi, arr_size, hm]) h
theorem st_arr (hgd : o.guard = none) (ty : TypeId) (x y : Operand) (ho : o.op = .store ty x y) (g : Nat) {k k' : IntKind} {xs ys : List Int} (hx : a.eval x = .pointer (some ⟨g, 0, none⟩)) (hy : a.eval y = .agg (arr k xs))
    {t : TypeId} (hg : w.heap[g]? = some (.cells (arr k' ys) t (0, 0))) {m : Nat} (hi : (P.info? ty).map (·.size) = some m) (hm : xs.length = m) (hl : ys.length = xs.length)
    (h : ∀ w', (w'.heap[g]? = some (.cells (arr k xs) t (0, 0))) → (∀ j, j ≠ g → w'.heap[j]? = w.heap[j]?) → (w'.heap.size = w.heap.size) → (∀ B w0, Below B w0 w → B ≤ g → Below B w0 w') → wpList P ops Q rest (a.put o.dst undef) w') : wpList P ops Q (o :: rest) a w :=
  wpList_store_row hgd ty x y ho g (arr k xs) hx hy t _ hg (by rw [hi, arr_size, hm]) (by rw [arr_size, arr_size, hl]) (arr_one k xs)
    (h _ (setRow_heap w g _ _ t _ hg) (fun j hj => setRow_other w g j _ hj) (by simp [World.setRow]) (fun B w0 hb hB => ⟨hb.os, hb.tape, hb.output, by have := hb.size; simpa [World.setRow] using this, fun i hi => (setRow_other w g i _ (by omega)).trans (hb.block i hi)⟩))
end

/- numbers of 256 and of 512 bits, pieces of 64 -/
def P64 : Nat := 18446744073709551616
def num (x : Nat) : List Int := limbs P64 4 x
def wid (x : Nat) : List Int := limbs P64 8 x
def N4 (x : Nat) : Value := .agg (arr .u64 (num x))
def N8 (x : Nat) : Value := .agg (arr .u64 (wid x))
theorem num_length (x : Nat) : (num x).length = 4 := limbs_length _ _ _
theorem wid_length (x : Nat) : (wid x).length = 8 := limbs_length _ _ _
theorem num_ok (x : Nat) : Ok P64 (num x) := limbs_ok _ (by decide) _ _
theorem wid_ok (x : Nat) : Ok P64 (wid x) := limbs_ok _ (by decide) _ _
theorem num_val (x : Nat) : lval P64 (num x) = ((x % P64 ^ 4 : Nat) : Int) := lval_limbs _ (by decide) _ _
theorem wid_val (x : Nat) : lval P64 (wid x) = ((x % P64 ^ 8 : Nat) : Int) := lval_limbs _ (by decide) _ _
theorem eq_num {xs : List Int} (h : Ok P64 xs) (hl : xs.length = 4) (x : Nat) (hv : lval P64 xs = ((x % P64 ^ 4 : Nat) : Int)) : xs = num x := eq_limbs _ (by decide) xs h 4 x hl hv
theorem eq_wid {xs : List Int} (h : Ok P64 xs) (hl : xs.length = 8) (x : Nat) (hv : lval P64 xs = ((x % P64 ^ 8 : Nat) : Int)) : xs = wid x := eq_limbs _ (by decide) xs h 8 x hl hv
/- the reference's elements, sixteen pieces of 16 bits -/
def fe (x : Nat) : List Int := limbs 65536 16 x
def F16 (x : Nat) : Value := .agg (arr .i64 (fe x))
theorem fe_length (x : Nat) : (fe x).length = 16 := limbs_length _ _ _
theorem fe_ok (x : Nat) : Ok 65536 (fe x) := limbs_ok _ (by decide) _ _
theorem fe_val (x : Nat) : lval 65536 (fe x) = ((x % 65536 ^ 16 : Nat) : Int) := lval_limbs _ (by decide) _ _
theorem eq_fe {xs : List Int} (h : Ok 65536 xs) (hl : xs.length = 16) (x : Nat) (hv : lval 65536 xs = ((x % 65536 ^ 16 : Nat) : Int)) : xs = fe x := eq_limbs _ (by decide) xs h 16 x hl hv
end Go.Proofs.Ytmkemagjedihmaa.Arr
