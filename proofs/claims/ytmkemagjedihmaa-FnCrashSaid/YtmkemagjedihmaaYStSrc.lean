/- A source of bytes out of a code: what it yields, and what stays as it was while it is asked. -/
import Derived.Test.YtmkemagjedihmaaYStOps
import Derived.Test.YtmkemagjedihmaaYFldW
namespace Go.Proofs.Ytmkemagjedihmaa.StSrc
open Go.RowKit Go.Proofs.Ytmkemagjedihmaa.Arr Go.Proofs.Ytmkemagjedihmaa.Limb Go.Proofs.Ytmkemagjedihmaa.St Go.Proofs.Ytmkemagjedihmaa.FldA Go.Proofs.Ytmkemagjedihmaa.FldB Go.Proofs.YtmkemagjedihmaaW.PrintWords Go.Proofs.YtmkemagjedihmaaW.PrintLast Go.Proofs.YtmkemagjedihmaaW.PrintMore
set_option linter.unusedVariables false

structure Ch (g : Nat) (w w' : World) : Prop where
  oth : ∀ j, j ≠ g → w'.heap[j]? = w.heap[j]?
  siz : w'.heap.size = w.heap.size
  bel : ∀ B w0, Below B w0 w → B ≤ g → Below B w0 w'
theorem Ch.refl (g : Nat) (w : World) : Ch g w w := ⟨fun _ _ => rfl, rfl, fun _ _ h _ => h⟩
theorem Ch.trans {g : Nat} {w w1 w2 : World} (h : Ch g w w1) (h2 : Ch g w1 w2) : Ch g w w2 :=
  ⟨fun j hj => (h2.oth j hj).trans (h.oth j hj), h2.siz.trans h.siz, fun B w0 hb hB => h2.bel B w0 (h.bel B w0 hb hB) hB⟩
theorem Ch.drew {g : Nat} {w w1 : World} (h : Ch g w w1) : Ch g w w1.drew := ⟨fun j hj => h.oth j hj, h.siz, fun B w0 hb hB => below_drew (h.bel B w0 hb hB)⟩
theorem Ch.set {g : Nat} {w w1 : World} (h : Ch g w w1) (j : Nat) (v : Value) : Ch g w (w1.setCell ⟨g, j, none⟩ v) :=
  ⟨fun k hk => (Below.heap_setCell w1 ⟨g, j, none⟩ v k hk).trans (h.oth k hk), by simpa using h.siz, fun B w0 hb hB => (h.bel B w0 hb hB).setCell hB _⟩

theorem Ch.grown {g : Nat} {w w' : World} (h : Ch g w w') : w.grownBy w' (some g) :=
  have b := h.bel 0 w (Below.refl _ _) (Nat.zero_le _)
  ⟨b.os, b.tape, b.output, b.size, fun k _ hk => h.oth k (fun e => hk (by rw [e]))⟩
theorem R_ch {g base : Nat} {e : TypeId} {ok : Nat → Prop} {W W1 : World} {v : Value} {xs : List Int} (h : (Kd.int .u8).R e W base ok v xs) (hc : Ch g W W1) (hg : g < base) : (Kd.int .u8).R e W1 base ok v xs :=
  Kd.R_grown1 h rfl hc.grown (fun e_ => by have := Kd.R_base h _ e_.symm; omega)
/-- the next byte, and the seed behind it -/
def byV (code : List Int) (a : Nat) (seed : Int) : Int := if a < code.length then code.getD a 0 else if 3000 ≤ a then 0 else (seed * 1103515245 + 12345) % 2147483648 / 65536 % 256
def byS (code : List Int) (a : Nat) (seed : Int) : Int := if a < code.length then (seed * 31 + code.getD a 0 + 7) % 2147483648 else if 3000 ≤ a then seed else (seed * 1103515245 + 12345) % 2147483648
theorem byV_range (code : List Int) (ho : Ok 256 code) (a : Nat) (seed : Int) : 0 ≤ byV code a seed ∧ byV code a seed < 256 := by
  unfold byV
  split
  · rename_i h; exact getD_range ho a h
  · split
    · omega
    · omega
theorem byS_range (code : List Int) (a : Nat) (seed : Int) (h : 0 ≤ seed ∧ seed < 2147483648) : 0 ≤ byS code a seed ∧ byS code a seed < 2147483648 := by
  unfold byS
  split
  · omega
  · split
    · exact h
    · omega
/-- the seed behind so many bytes -/
def sdN (code : List Int) : Nat → Int
  | 0 => (code.length : Int) % 1000
  | k + 1 => byS code k (sdN code k)
theorem sdN_range (code : List Int) (k : Nat) : 0 ≤ sdN code k ∧ sdN code k < 2147483648 := by
  induction k with
  | zero => simp only [sdN]; omega
  | succ k ih => exact byS_range code k _ ih
def byN (code : List Int) (k : Nat) : Int := byV code k (sdN code k)
theorem byN_range (code : List Int) (ho : Ok 256 code) (k : Nat) : 0 ≤ byN code k ∧ byN code k < 256 := byV_range code ho k _
/-- the bytes that are drawn for an element -/
def elL (code : List Int) : Nat → List Int
  | 0 => List.replicate 32 0
  | k + 1 => (elL code k).set k (byN code (k + 1) % 256 % 256)
theorem elL_length (code : List Int) (k : Nat) : (elL code k).length = 32 := by
  induction k with
  | zero => simp [elL]
  | succ k ih => simp [elL, ih]
theorem elL_ok (code : List Int) (k : Nat) : Ok 256 (elL code k) := by
  induction k with
  | zero => intro x hx; rw [List.eq_of_mem_replicate hx]; omega
  | succ k ih => exact ok_set ih k _ (by omega) (by omega)
/-- the element that is drawn -/
def elN (code : List Int) : Nat :=
  if byN code 0 % 6 = 0 then (byN code 1 % 5).toNat
  else if byN code 0 % 6 = 1 then PP - (1 + (byN code 1 % 20).toNat)
  else bval (elL code 32) % PP
theorem elN_0 (code : List Int) (h : byN code 0 % 6 = 0) : elN code = (byN code 1 % 5).toNat := by unfold elN; rw [if_pos h]
theorem elN_1 (code : List Int) (h0 : ¬ byN code 0 % 6 = 0) (h : byN code 0 % 6 = 1) : elN code = PP - (1 + (byN code 1 % 20).toNat) := by unfold elN; rw [if_neg h0, if_pos h]
theorem elN_2 (code : List Int) (h0 : ¬ byN code 0 % 6 = 0) (h : ¬ byN code 0 % 6 = 1) : elN code = bval (elL code 32) % PP := by unfold elN; rw [if_neg h0, if_neg h]
theorem set_first (v : Nat) (hv : v < 256) : (List.replicate 32 (0 : Int)).set 0 (v : Int) = limbs 256 32 v := by
  have h : limbs 256 32 v = (v : Int) :: List.replicate 31 0 := by
    show ((v % 256 : Nat) : Int) :: limbs 256 31 (v / 256) = _
    rw [Nat.mod_eq_of_lt hv, Nat.div_eq_of_lt hv]
    rfl
  rw [h]; rfl
theorem neg_mod (c n : Nat) (hn : 0 < n) (hp : n < PP) (h : (c + n) % PP = 0 % PP) : c % PP = PP - n := by
  have h1 := Nat.mod_lt c (show 0 < PP by decide)
  rw [Nat.zero_mod, Nat.add_mod, Nat.mod_eq_of_lt hp] at h
  generalize c % PP = d at *
  rcases Nat.lt_or_ge (d + n) PP with h2 | h2
  · rw [Nat.mod_eq_of_lt h2] at h; omega
  · rw [Nat.mod_eq_sub_mod h2, Nat.mod_eq_of_lt (by omega)] at h; omega
theorem elN_lt (code : List Int) : elN code < PP := by
  unfold elN
  have hP : 100 < PP := by decide
  split
  · omega
  · split
    · omega
    · exact Nat.mod_lt _ (by decide)
end Go.Proofs.Ytmkemagjedihmaa.StSrc
