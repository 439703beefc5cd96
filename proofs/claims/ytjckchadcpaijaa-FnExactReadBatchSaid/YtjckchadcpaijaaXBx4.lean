-- Written by a program of this session (xp.py over the kit's printer, with functions proved by hand). Lean checks it.
import Derived.Test.YtjckchadcpaijaaXBx0
import Derived.Test.YtjckchadcpaijaaXBx3
namespace Go.Proofs.Ytjckchadcpaijaa.XB
open Go.Proofs.Ytjckchadcpaijaa.Open Go.Proofs.Ytjckchadcpaijaa.OpenWin Go.Proofs.Ytjckchadcpaijaa.OpenCopy Go.Proofs.Ytjckchadcpaijaa.OpenStr
open Go.RowKit Go.Proofs.YtjckchadcpaijaaW.PrintWords Go.Proofs.YtjckchadcpaijaaW.PrintLast Go.Proofs.YtjckchadcpaijaaW.PrintMore
attribute [local go_sem] max2_int min2_int max_two min_two max_three min_three max_four min_four   -- for this text's walks alone
set_option linter.unusedVariables false
set_option linter.unusedSimpArgs false

/-! ### impl_readChange: function 86 -/
/-- the change in front of bytes, and the bytes behind it -/
def impl_readChange.go (l : List Int) : Option (S95 × List Int) :=
  let k := (l.getD 0 0).toNat
  let r1 := (l.drop 1).drop k
  let n := (r1.getD 0 0 * 256 + r1.getD 1 0).toNat
  let r2 := r1.drop 2
  if (l.drop 1).length < k ∨ r1.length < 2 ∨ r2.length < n - 1 then none else some (⟨strOfNums ((l.drop 1).take k), strOfNums (r2.take (n - 1)), n == 0⟩, r2.drop (n - 1))
theorem impl_readChange.box_below {w w1 : World} {g t : Nat} {cs : Array Value} (hb : w.heap[g]? = some (.cells cs t (0, 0))) (h : Below w.heap.size w w1) : w1.heap[g]? = some (.cells cs t (0, 0)) := by
  rw [h.block g (blk_lt hb)]; exact hb
theorem impl_readChange.or8 (n b : Nat) (hn : n < 281474976710656) (hb : b < 256) : Go.bits .or .i64 ((n : Int) * 256) (b : Int) = (n : Int) * 256 + b := by
  have e : ((n : Int) * 256) = ((n * 256 : Nat) : Int) := by omega
  have h2 : n * 256 ||| b = n * 256 + b := by
    have := Nat.shiftLeft_add_eq_or_of_lt (i := 8) (b := b) (by simpa using hb) n
    rw [Nat.shiftLeft_eq] at this
    rw [show n * 256 = n * 2 ^ 8 from rfl, ← this]
  show IntKind.i64.wrap ((BitVec.ofInt 64 ((n : Int) * 256) ||| BitVec.ofInt 64 (b : Int)).toNat : Int) = _
  rw [e, BitVec.toNat_or, ofInt_u64 (n * 256) (by omega), ofInt_u64 b (by omega), h2]
  simp [IntKind.wrap, IntKind.bits, IntKind.signed]
  omega
theorem impl_readChange.big2 (a b : Int) (ha : 0 ≤ a) (ha2 : a < 256) (hb : 0 ≤ b) (hb2 : b < 256) : impl_bigOf.f 3 [a, b] = some (a * 256 + b) := by
  obtain ⟨x, rfl⟩ := Int.eq_ofNat_of_zero_le ha
  obtain ⟨y, rfl⟩ := Int.eq_ofNat_of_zero_le hb
  have w1 : wrap64 (0 * 256) = ((0 : Nat) : Int) * 256 := by unfold wrap64; rfl
  have w2 : wrap64 (x : Int) = x := by unfold wrap64; omega
  have w3 : wrap64 (0 + 1) = 1 := by unfold wrap64; rfl
  have w4 : wrap64 ((x : Int) * 256) = (x : Int) * 256 := by unfold wrap64; omega
  have w5 : wrap64 (y : Int) = y := by unfold wrap64; omega
  have w6 : wrap64 (1 + 1) = 2 := by unfold wrap64; rfl
  have e0 : ((0 : Nat) : Int) * 256 + (x : Int) = x := by omega
  unfold impl_bigOf.f
  show impl_bigOf.l0 3 0 [(x : Int), (y : Int)] 2 0 = _
  rw [impl_bigOf.l0, if_pos (by decide), if_pos (by decide), if_pos (by show (0 : Int) < 2; decide), w1, show rd [(x : Int), (y : Int)] 0 = x from rfl, w2, impl_readChange.or8 0 x (by decide) (by omega), e0, w3]
  rw [impl_bigOf.l0, if_pos (by decide), if_pos (by decide), if_pos (by show (1 : Int) < 2; decide), w4, show rd [(x : Int), (y : Int)] 1 = y from rfl, w5, impl_readChange.or8 x y (by omega) (by omega), w6]
  rw [impl_bigOf.l0, if_neg (by decide)]
set_option maxHeartbeats 8000000 in
set_option maxRecDepth 100000 in
theorem impl_readChange.cA (A : Option Addr) (c : Nat) (l : List Int) (k : Nat) (w : World) (hC : Kd.C (Kd.int .u8) w A l.length l) (hc : l.length ≤ c) (h0 : 0 < l.length) (hk : l.getD 0 0 = (k : Int)) (hk2 : k < 256) (hA : (l.drop 1).length < k) :
    Calls Try.prog 86 #[.slice A l.length c] w fun e w' => e = .returned (.tuple #[.agg #[.string (⟨#[]⟩ : ByteArray), .string (⟨#[]⟩ : ByteArray), .bool false], .slice none 0 0, .bool false]) ∧ Below w.heap.size w w' := by
  have hu := Try.underlying95
  have hl : l.length ≤ 9223372036854775807 := hC.2.1
  obtain ⟨i0, hi0, _, hsz, _⟩ := info_parts info5
  obtain ⟨A1, k1, r1, q1⟩ := print_cut_int (P := Try.prog) (k := .u8) 29 5 Try.underlying29 hi0 hsz A c l 1 (by omega) (by omega) hc
  have hR : ReadsInt w .u8 A l.length l := Kd.reads_of_C (enc := Value.int .u8) (d := (0 : Int)) (h1 := fun _ => rfl) hC
  obtain ⟨ad, rfl, hx⟩ := hR.at_ 0 (by omega) (by omega)
  have F1 := Aside0.mk (show ∀ W, Kd.C (Kd.int .u8) W (some ad) l.length l → Kd.C (Kd.int .u8) W A1 (l.drop 1).length (l.drop 1) from fun W hW => Kd.C_of_reads (h1 := fun _ => rfl) (r1 W (Kd.reads_of_C (enc := Value.int .u8) (d := (0 : Int)) (h1 := fun _ => rfl) hW)))
  have HC0 := Aside0.mk hC
  have Q1 := Aside0.mk (show (l.drop 1).length ≤ c - 1 from q1)
  rw [show (1 : Int).toNat = 1 from rfl] at k1
  rw [show rd l 0 = l.getD 0 0 from rfl, show (0 : Int).toNat = 0 from rfl, hk, show ad.add 0 = ad by unfold Addr.add; simp] at hx
  have h0z : (0 : Int) < (l.length : Int) := by omega
  have hkz : (k : Int) < 256 := by omega
  have hwk : IntKind.i64.wrap (k : Int) = k := by rw [IntKind.wrap_i64]; omega
  have hml : (l.drop 1).length ≤ 9223372036854775807 := by rw [List.length_drop]; omega
  generalize hm : l.drop 1 = m at *
  have HM := Aside0.mk hm
  clear hm
  have HT1 := Aside0.mk (fun W => impl_taken.no A1 (c - 1) m k W hml hA)
  clear hR r1 q1 hi0 hsz hC hk hc
  go_enter Try.func86, Try.ntmps86
  go_wp2_with ((with_reducible refine gate_dst (N := 2) rfl ?_); refine box_event ?hg (N := 2) ?hd (cs := #[.string (⟨#[]⟩ : ByteArray), .string (⟨#[]⟩ : ByteArray), .bool false]) (t := 95) ?hr ?_; (case hd => rfl); (case hg => rfl); (case hr => first | (go_simp; done) | (go_simp; rfl)); intro gb hg w2 hbox hb; have GE := Aside0.mk (show w.heap.size ≤ gb by rw [hg]; exact Nat.le_refl _); have HB := Aside0.mk hb; have BX := Aside0.mk hbox; clear hbox hg hb)
  have hx2 : w2.cell? ad = some (.int .u8 (k : Int)) := (HB.out.cell (World.block_lt_of_cell? _ _ hx)).trans hx
  clear hx
  refine start_ (n := 14) (S := fun w' => w'.cell? ad = some (.int .u8 (k : Int))) (ds := [6]) #[false, false, false, false, false, false, false, false, false, false, false, false, false, false] (by kernel_rfl) rfl rfl (hx2) (fun hHeld => ?_)
  refine pure_ (i := 0) (N := some 12) (v := ?_) (a' := ?_) #[true, false, false, false, false, false, false, false, false, false, false, false, false, false] rfl rfl (by kernel_rfl) (fun _ _ _ h => h) (Or.inl ⟨by rfl, ?_⟩) ?_ ?_
  rotate_left
  · intro w'
    go_simp
    with_reducible rfl
  rotate_left
  · simp only [Act.put, List.setIfInBounds_toArray, List.set_cons_zero, List.set_cons_succ, i64_w, i32_w]
    rfl
  refine pure_ (i := 1) (N := some 13) (v := ?_) (a' := ?_) #[true, true, false, false, false, false, false, false, false, false, false, false, false, false] rfl rfl (by kernel_rfl) (fun _ _ _ h => h) (Or.inl ⟨by rfl, ?_⟩) ?_ ?_
  rotate_left
  · intro w'
    go_simp
    with_reducible rfl
  rotate_left
  · simp only [Act.put, List.setIfInBounds_toArray, List.set_cons_zero, List.set_cons_succ, i64_w, i32_w]
    rfl
  refine pure_ (i := 2) (N := some 14) (v := ?_) (a' := ?_) #[true, true, true, false, false, false, false, false, false, false, false, false, false, false] rfl rfl (by kernel_rfl) (fun _ _ _ h => h) (Or.inl ⟨by rfl, ?_⟩) ?_ ?_
  rotate_left
  · intro w'
    go_simp
    with_reducible rfl
  rotate_left
  · simp only [Act.put, List.setIfInBounds_toArray, List.set_cons_zero, List.set_cons_succ, i64_w, i32_w]
    rfl
  refine pure_ (i := 3) (N := some 15) (v := ?_) (a' := ?_) #[true, true, true, true, false, false, false, false, false, false, false, false, false, false] rfl rfl (by kernel_rfl) (fun _ _ _ h => h) (Or.inl ⟨by rfl, ?_⟩) ?_ ?_
  rotate_left
  · intro w'
    go_simp
    with_reducible rfl
  rotate_left
  · simp only [Act.put, List.setIfInBounds_toArray, List.set_cons_zero, List.set_cons_succ, i64_w, i32_w]
    rfl
  refine take_ (i := 4) (N := some 16) (v := ?_) (a' := ?_) #[true, true, true, true, true, false, false, false, false, false, false, false, false, false] rfl rfl (by kernel_rfl) (fun _ _ _ h => h) (Or.inl ⟨by rfl, ?_⟩) hHeld ?_ ?_
  rotate_left
  · intro w' s0
    go_simp
    with_reducible rfl
  rotate_left
  · simp only [Act.put, List.setIfInBounds_toArray, List.set_cons_zero, List.set_cons_succ, i64_w, i32_w]
    rfl
  refine pure_ (i := 5) (N := some 17) (v := ?_) (a' := ?_) #[true, true, true, true, true, true, false, false, false, false, false, false, false, false] rfl rfl (by kernel_rfl) (fun _ _ _ h => h) (Or.inl ⟨by rfl, ?_⟩) ?_ ?_
  rotate_left
  · intro w'
    go_simp
    with_reducible rfl
  rotate_left
  · simp only [Act.put, List.setIfInBounds_toArray, List.set_cons_zero, List.set_cons_succ, i64_w, i32_w]
    rfl
  refine last_ (i := 6) (N := some 18) #[true, true, true, true, true, true, true, false, false, false, false, false, false, false] rfl rfl (by kernel_rfl) (by decide) (fun K hK => ?_)
  refine goes_ Try.func97 (by kernel_rfl) rfl #[.slice A1 m.length (c - 1), .int .i64 (k : Int)] (by rfl) rfl rfl (by simp only [List.map_toArray, List.map_cons, List.map_nil] <;> rfl) ?_
  with_reducible refine (HT1.out _).mono ?_
  rintro e w3 ⟨rfl, rfl⟩
  refine ⟨_, rfl, ?_⟩
  refine hK.out _ _ ?_
  clear hK K
  refine norm_ (a' := ?_) ?_ ?_
  rotate_left
  · show Act.put _ (some 18) _ = _
    simp only [Act.put, List.setIfInBounds_toArray, List.set_cons_zero, List.set_cons_succ, i64_w, i32_w]
    rfl
  refine pure_ (i := 7) (N := some 11) (v := ?_) (a' := ?_) #[true, true, true, true, true, true, true, true, false, false, false, false, false, false] rfl rfl (by kernel_rfl) (fun _ _ _ h => h) (Or.inl ⟨by rfl, ?_⟩) ?_ ?_
  rotate_left
  · intro w'
    go_simp
    with_reducible rfl
  rotate_left
  · simp only [Act.put, List.setIfInBounds_toArray, List.set_cons_zero, List.set_cons_succ, i64_w, i32_w]
    rfl
  refine pure_ (i := 8) (N := some 19) (v := ?_) (a' := ?_) #[true, true, true, true, true, true, true, true, true, false, false, false, false, false] rfl rfl (by kernel_rfl) (fun _ _ _ h => h) (Or.inl ⟨by rfl, ?_⟩) ?_ ?_
  rotate_left
  · intro w'
    go_simp
    with_reducible rfl
  rotate_left
  · simp only [Act.put, List.setIfInBounds_toArray, List.set_cons_zero, List.set_cons_succ, i64_w, i32_w]
    rfl
  refine pure_ (i := 9) (N := some 20) (v := ?_) (a' := ?_) #[true, true, true, true, true, true, true, true, true, true, false, false, false, false] rfl rfl (by kernel_rfl) (fun _ _ _ h => h) (Or.inl ⟨by rfl, ?_⟩) ?_ ?_
  rotate_left
  · intro w'
    go_simp
    with_reducible rfl
  rotate_left
  · simp only [Act.put, List.setIfInBounds_toArray, List.set_cons_zero, List.set_cons_succ, i64_w, i32_w]
    rfl
  refine pure_ (i := 10) (N := some 21) (v := ?_) (a' := ?_) #[true, true, true, true, true, true, true, true, true, true, true, false, false, false] rfl rfl (by kernel_rfl) (fun _ _ _ h => h) (Or.inl ⟨by rfl, ?_⟩) ?_ ?_
  rotate_left
  · intro w'
    go_simp
    with_reducible rfl
  rotate_left
  · simp only [Act.put, List.setIfInBounds_toArray, List.set_cons_zero, List.set_cons_succ, i64_w, i32_w]
    rfl
  refine pure_ (i := 11) (N := some 5) (v := ?_) (a' := ?_) #[true, true, true, true, true, true, true, true, true, true, true, true, false, false] rfl rfl (by kernel_rfl) (fun _ _ _ h => h) (Or.inl ⟨by rfl, ?_⟩) ?_ ?_
  rotate_left
  · intro w'
    go_simp
    with_reducible rfl
  rotate_left
  · simp only [Act.put, List.setIfInBounds_toArray, List.set_cons_zero, List.set_cons_succ, i64_w, i32_w]
    rfl
  refine pure_ (i := 12) (N := some 6) (v := ?_) (a' := ?_) #[true, true, true, true, true, true, true, true, true, true, true, true, true, false] rfl rfl (by kernel_rfl) (fun _ _ _ h => h) (Or.inl ⟨by rfl, ?_⟩) ?_ ?_
  rotate_left
  · intro w'
    go_simp
    with_reducible rfl
  rotate_left
  · simp only [Act.put, List.setIfInBounds_toArray, List.set_cons_zero, List.set_cons_succ, i64_w, i32_w]
    rfl
  refine pure_ (i := 13) (N := some 7) (v := ?_) (a' := ?_) #[true, true, true, true, true, true, true, true, true, true, true, true, true, true] rfl rfl (by kernel_rfl) (fun _ _ _ h => h) (Or.inl ⟨by rfl, ?_⟩) ?_ ?_
  rotate_left
  · intro w'
    go_simp
    with_reducible rfl
  rotate_left
  · simp only [Act.put, List.setIfInBounds_toArray, List.set_cons_zero, List.set_cons_succ, i64_w, i32_w]
    rfl
  refine done_ (by kernel_rfl) ?_

  have y0 : w2.cell? ⟨gb, 0, none⟩ = some (.string (⟨#[]⟩ : ByteArray)) := (blk_cell BX.out 0).trans rfl
  have y1 : w2.cell? ⟨gb, 1, none⟩ = some (.string (⟨#[]⟩ : ByteArray)) := (blk_cell BX.out 1).trans rfl
  have y2 : w2.cell? ⟨gb, 2, none⟩ = some (.bool false) := (blk_cell BX.out 2).trans rfl
  have z0 : w2.frozen? ⟨gb, 0, none⟩ = false := blk_frozen BX.out 0
  have z1 : w2.frozen? ⟨gb, 1, none⟩ = false := blk_frozen BX.out 1
  have z2 : w2.frozen? ⟨gb, 2, none⟩ = false := blk_frozen BX.out 2
  go_wp2
  refine bodyPost_ret (results_list (rs := [.cell 2 95, .tmp 3, .tmp 4]) rfl (by simp) (.cell gb 95 #[.string (⟨#[]⟩ : ByteArray), .string (⟨#[]⟩ : ByteArray), .bool false] (0, 0) _ rfl (by refine blk_put (cs := #[.string (⟨#[]⟩ : ByteArray), .string (⟨#[]⟩ : ByteArray), .bool false]) ?_ 2 _ rfl; refine blk_put (cs := #[.string (⟨#[]⟩ : ByteArray), .string (⟨#[]⟩ : ByteArray), .bool false]) ?_ 1 _ rfl; refine blk_put (cs := #[.string (⟨#[]⟩ : ByteArray), .string (⟨#[]⟩ : ByteArray), .bool false]) ?_ 0 _ rfl; exact BX.out) Try.underlying95 rfl (by kernel_rfl) (.tmp (.tmp .nil)))) rfl ?_
  exact ⟨rfl, below_drew1 (below_set (below_set (below_set HB.out GE.out) GE.out) GE.out)⟩
set_option maxHeartbeats 8000000 in
set_option maxRecDepth 100000 in
theorem impl_readChange.cB (A : Option Addr) (c : Nat) (l : List Int) (k : Nat) (w : World) (hC : Kd.C (Kd.int .u8) w A l.length l) (hc : l.length ≤ c) (h0 : 0 < l.length) (hk : l.getD 0 0 = (k : Int)) (hk2 : k < 256) (hA : k ≤ (l.drop 1).length) (hB : ((l.drop 1).drop k).length < 2) :
    Calls Try.prog 86 #[.slice A l.length c] w fun e w' => e = .returned (.tuple #[.agg #[.string (⟨#[]⟩ : ByteArray), .string (⟨#[]⟩ : ByteArray), .bool false], .slice none 0 0, .bool false]) ∧ Below w.heap.size w w' := by
  have hu := Try.underlying95
  have hl : l.length ≤ 9223372036854775807 := hC.2.1
  obtain ⟨i0, hi0, _, hsz, _⟩ := info_parts info5
  obtain ⟨A1, k1, r1, q1⟩ := print_cut_int (P := Try.prog) (k := .u8) 29 5 Try.underlying29 hi0 hsz A c l 1 (by omega) (by omega) hc
  have hR : ReadsInt w .u8 A l.length l := Kd.reads_of_C (enc := Value.int .u8) (d := (0 : Int)) (h1 := fun _ => rfl) hC
  obtain ⟨ad, rfl, hx⟩ := hR.at_ 0 (by omega) (by omega)
  have F1 := Aside0.mk (show ∀ W, Kd.C (Kd.int .u8) W (some ad) l.length l → Kd.C (Kd.int .u8) W A1 (l.drop 1).length (l.drop 1) from fun W hW => Kd.C_of_reads (h1 := fun _ => rfl) (r1 W (Kd.reads_of_C (enc := Value.int .u8) (d := (0 : Int)) (h1 := fun _ => rfl) hW)))
  have HC0 := Aside0.mk hC
  have Q1 := Aside0.mk (show (l.drop 1).length ≤ c - 1 from q1)
  rw [show (1 : Int).toNat = 1 from rfl] at k1
  rw [show rd l 0 = l.getD 0 0 from rfl, show (0 : Int).toNat = 0 from rfl, hk, show ad.add 0 = ad by unfold Addr.add; simp] at hx
  have h0z : (0 : Int) < (l.length : Int) := by omega
  have hkz : (k : Int) < 256 := by omega
  have hwk : IntKind.i64.wrap (k : Int) = k := by rw [IntKind.wrap_i64]; omega
  have hml : (l.drop 1).length ≤ 9223372036854775807 := by rw [List.length_drop]; omega
  generalize hm : l.drop 1 = m at *
  have HM := Aside0.mk hm
  clear hm
  have HT1 := Aside0.mk (fun W hW => impl_taken.yes A1 (c - 1) m k W hW Q1.out hA)
  have HT2 := Aside0.mk (show ∀ (A2 : Option Addr) (W : World), Calls Try.prog 97 #[.slice A2 (m.drop k).length (c - 1 - k), .int .i64 2] W fun e w' => e = .returned (.tuple #[.slice none 0 0, .slice none 0 0, .bool false]) ∧ W = w' from fun A2 W => impl_taken.no A2 (c - 1 - k) (m.drop k) 2 W (by rw [List.length_drop]; omega) hB)
  clear hR r1 q1 hi0 hsz hC hk hc
  go_enter Try.func86, Try.ntmps86
  go_wp2_with ((with_reducible refine gate_dst (N := 2) rfl ?_); refine box_event ?hg (N := 2) ?hd (cs := #[.string (⟨#[]⟩ : ByteArray), .string (⟨#[]⟩ : ByteArray), .bool false]) (t := 95) ?hr ?_; (case hd => rfl); (case hg => rfl); (case hr => first | (go_simp; done) | (go_simp; rfl)); intro gb hg w2 hbox hb; have GE := Aside0.mk (show w.heap.size ≤ gb by rw [hg]; exact Nat.le_refl _); have HB := Aside0.mk hb; have BX := Aside0.mk hbox; clear hbox hg hb)
  have hx2 : w2.cell? ad = some (.int .u8 (k : Int)) := (HB.out.cell (World.block_lt_of_cell? _ _ hx)).trans hx
  clear hx
  refine start_ (n := 14) (S := fun w' => w'.cell? ad = some (.int .u8 (k : Int))) (ds := [6]) #[false, false, false, false, false, false, false, false, false, false, false, false, false, false] (by kernel_rfl) rfl rfl (hx2) (fun hHeld => ?_)
  refine pure_ (i := 0) (N := some 12) (v := ?_) (a' := ?_) #[true, false, false, false, false, false, false, false, false, false, false, false, false, false] rfl rfl (by kernel_rfl) (fun _ _ _ h => h) (Or.inl ⟨by rfl, ?_⟩) ?_ ?_
  rotate_left
  · intro w'
    go_simp
    with_reducible rfl
  rotate_left
  · simp only [Act.put, List.setIfInBounds_toArray, List.set_cons_zero, List.set_cons_succ, i64_w, i32_w]
    rfl
  refine pure_ (i := 1) (N := some 13) (v := ?_) (a' := ?_) #[true, true, false, false, false, false, false, false, false, false, false, false, false, false] rfl rfl (by kernel_rfl) (fun _ _ _ h => h) (Or.inl ⟨by rfl, ?_⟩) ?_ ?_
  rotate_left
  · intro w'
    go_simp
    with_reducible rfl
  rotate_left
  · simp only [Act.put, List.setIfInBounds_toArray, List.set_cons_zero, List.set_cons_succ, i64_w, i32_w]
    rfl
  refine pure_ (i := 2) (N := some 14) (v := ?_) (a' := ?_) #[true, true, true, false, false, false, false, false, false, false, false, false, false, false] rfl rfl (by kernel_rfl) (fun _ _ _ h => h) (Or.inl ⟨by rfl, ?_⟩) ?_ ?_
  rotate_left
  · intro w'
    go_simp
    with_reducible rfl
  rotate_left
  · simp only [Act.put, List.setIfInBounds_toArray, List.set_cons_zero, List.set_cons_succ, i64_w, i32_w]
    rfl
  refine pure_ (i := 3) (N := some 15) (v := ?_) (a' := ?_) #[true, true, true, true, false, false, false, false, false, false, false, false, false, false] rfl rfl (by kernel_rfl) (fun _ _ _ h => h) (Or.inl ⟨by rfl, ?_⟩) ?_ ?_
  rotate_left
  · intro w'
    go_simp
    with_reducible rfl
  rotate_left
  · simp only [Act.put, List.setIfInBounds_toArray, List.set_cons_zero, List.set_cons_succ, i64_w, i32_w]
    rfl
  refine take_ (i := 4) (N := some 16) (v := ?_) (a' := ?_) #[true, true, true, true, true, false, false, false, false, false, false, false, false, false] rfl rfl (by kernel_rfl) (fun _ _ _ h => h) (Or.inl ⟨by rfl, ?_⟩) hHeld ?_ ?_
  rotate_left
  · intro w' s0
    go_simp
    with_reducible rfl
  rotate_left
  · simp only [Act.put, List.setIfInBounds_toArray, List.set_cons_zero, List.set_cons_succ, i64_w, i32_w]
    rfl
  refine pure_ (i := 5) (N := some 17) (v := ?_) (a' := ?_) #[true, true, true, true, true, true, false, false, false, false, false, false, false, false] rfl rfl (by kernel_rfl) (fun _ _ _ h => h) (Or.inl ⟨by rfl, ?_⟩) ?_ ?_
  rotate_left
  · intro w'
    go_simp
    with_reducible rfl
  rotate_left
  · simp only [Act.put, List.setIfInBounds_toArray, List.set_cons_zero, List.set_cons_succ, i64_w, i32_w]
    rfl
  refine last_ (i := 6) (N := some 18) #[true, true, true, true, true, true, true, false, false, false, false, false, false, false] rfl rfl (by kernel_rfl) (by decide) (fun K hK => ?_)
  refine goes_ Try.func97 (by kernel_rfl) rfl #[.slice A1 m.length (c - 1), .int .i64 (k : Int)] (by rfl) rfl rfl (by simp only [List.map_toArray, List.map_cons, List.map_nil] <;> rfl) ?_
  with_reducible refine (HT1.out _ (F1.out _ (Kd.C_below HC0.out (below_drew1 HB.out)))).mono ?_
  rintro e w3 ⟨A2, rfl, hC1_, hc1_, hC2_, hc2_, hb_⟩
  refine ⟨_, rfl, ?_⟩
  have HB3 := Aside0.mk (below_step (below_drew1 HB.out) hb_); have HCk := Aside0.mk (hC1_ _ (F1.out _ (Kd.C_below HC0.out HB3.out))); have HCr := Aside0.mk (hC2_ _ (F1.out _ (Kd.C_below HC0.out HB3.out))); have FR := Aside0.mk hC2_; have Qk := Aside0.mk hc1_; have Qr := Aside0.mk hc2_; have BX3 := Aside0.mk (box_below (show w2.drew.heap[gb]? = _ from BX.out) hb_); clear hC1_ hc1_ hC2_ hc2_ hb_
  generalize hkey : List.take k m = key at *
  generalize hr1 : List.drop k m = r1 at *
  have HKEY := Aside0.mk hkey; have HR1 := Aside0.mk hr1; clear hkey hr1
  refine hK.out _ _ ?_
  clear hK K
  refine norm_ (a' := ?_) ?_ ?_
  rotate_left
  · show Act.put _ (some 18) _ = _
    simp only [Act.put, List.setIfInBounds_toArray, List.set_cons_zero, List.set_cons_succ, i64_w, i32_w]
    rfl
  refine pure_ (i := 7) (N := some 11) (v := ?_) (a' := ?_) #[true, true, true, true, true, true, true, true, false, false, false, false, false, false] rfl rfl (by kernel_rfl) (fun _ _ _ h => h) (Or.inl ⟨by rfl, ?_⟩) ?_ ?_
  rotate_left
  · intro w'
    go_simp
    with_reducible rfl
  rotate_left
  · simp only [Act.put, List.setIfInBounds_toArray, List.set_cons_zero, List.set_cons_succ, i64_w, i32_w]
    rfl
  refine pure_ (i := 8) (N := some 19) (v := ?_) (a' := ?_) #[true, true, true, true, true, true, true, true, true, false, false, false, false, false] rfl rfl (by kernel_rfl) (fun _ _ _ h => h) (Or.inl ⟨by rfl, ?_⟩) ?_ ?_
  rotate_left
  · intro w'
    go_simp
    with_reducible rfl
  rotate_left
  · simp only [Act.put, List.setIfInBounds_toArray, List.set_cons_zero, List.set_cons_succ, i64_w, i32_w]
    rfl
  refine pure_ (i := 9) (N := some 20) (v := ?_) (a' := ?_) #[true, true, true, true, true, true, true, true, true, true, false, false, false, false] rfl rfl (by kernel_rfl) (fun _ _ _ h => h) (Or.inl ⟨by rfl, ?_⟩) ?_ ?_
  rotate_left
  · intro w'
    go_simp
    with_reducible rfl
  rotate_left
  · simp only [Act.put, List.setIfInBounds_toArray, List.set_cons_zero, List.set_cons_succ, i64_w, i32_w]
    rfl
  refine pure_ (i := 10) (N := some 21) (v := ?_) (a' := ?_) #[true, true, true, true, true, true, true, true, true, true, true, false, false, false] rfl rfl (by kernel_rfl) (fun _ _ _ h => h) (Or.inl ⟨by rfl, ?_⟩) ?_ ?_
  rotate_left
  · intro w'
    go_simp
    with_reducible rfl
  rotate_left
  · simp only [Act.put, List.setIfInBounds_toArray, List.set_cons_zero, List.set_cons_succ, i64_w, i32_w]
    rfl
  refine pure_ (i := 11) (N := some 5) (v := ?_) (a' := ?_) #[true, true, true, true, true, true, true, true, true, true, true, true, false, false] rfl rfl (by kernel_rfl) (fun _ _ _ h => h) (Or.inl ⟨by rfl, ?_⟩) ?_ ?_
  rotate_left
  · intro w'
    go_simp
    with_reducible rfl
  rotate_left
  · simp only [Act.put, List.setIfInBounds_toArray, List.set_cons_zero, List.set_cons_succ, i64_w, i32_w]
    rfl
  refine pure_ (i := 12) (N := some 6) (v := ?_) (a' := ?_) #[true, true, true, true, true, true, true, true, true, true, true, true, true, false] rfl rfl (by kernel_rfl) (fun _ _ _ h => h) (Or.inl ⟨by rfl, ?_⟩) ?_ ?_
  rotate_left
  · intro w'
    go_simp
    with_reducible rfl
  rotate_left
  · simp only [Act.put, List.setIfInBounds_toArray, List.set_cons_zero, List.set_cons_succ, i64_w, i32_w]
    rfl
  refine pure_ (i := 13) (N := some 7) (v := ?_) (a' := ?_) #[true, true, true, true, true, true, true, true, true, true, true, true, true, true] rfl rfl (by kernel_rfl) (fun _ _ _ h => h) (Or.inl ⟨by rfl, ?_⟩) ?_ ?_
  rotate_left
  · intro w'
    go_simp
    with_reducible rfl
  rotate_left
  · simp only [Act.put, List.setIfInBounds_toArray, List.set_cons_zero, List.set_cons_succ, i64_w, i32_w]
    rfl
  refine done_ (by kernel_rfl) ?_

  have y0 : w3.cell? ⟨gb, 0, none⟩ = some (.string (⟨#[]⟩ : ByteArray)) := (blk_cell BX3.out 0).trans rfl
  have y1 : w3.cell? ⟨gb, 1, none⟩ = some (.string (⟨#[]⟩ : ByteArray)) := (blk_cell BX3.out 1).trans rfl
  have y2 : w3.cell? ⟨gb, 2, none⟩ = some (.bool false) := (blk_cell BX3.out 2).trans rfl
  have z0 : w3.frozen? ⟨gb, 0, none⟩ = false := blk_frozen BX3.out 0
  have z1 : w3.frozen? ⟨gb, 1, none⟩ = false := blk_frozen BX3.out 1
  have z2 : w3.frozen? ⟨gb, 2, none⟩ = false := blk_frozen BX3.out 2
  go_wp2_with ((with_reducible refine (HT2.out A2 _).mono ?_); rintro e w4 ⟨rfl, rfl⟩)
  refine bodyPost_ret (results_list (rs := [.cell 2 95, .tmp 3, .tmp 4]) rfl (by simp) (.cell gb 95 #[.string (⟨#[]⟩ : ByteArray), .string (⟨#[]⟩ : ByteArray), .bool false] (0, 0) _ rfl (by refine blk_put (cs := #[.string (⟨#[]⟩ : ByteArray), .string (⟨#[]⟩ : ByteArray), .bool false]) ?_ 2 _ rfl; refine blk_put (cs := #[.string (⟨#[]⟩ : ByteArray), .string (⟨#[]⟩ : ByteArray), .bool false]) ?_ 1 _ rfl; refine blk_put (cs := #[.string (⟨#[]⟩ : ByteArray), .string (⟨#[]⟩ : ByteArray), .bool false]) ?_ 0 _ rfl; exact BX3.out) Try.underlying95 rfl (by kernel_rfl) (.tmp (.tmp .nil)))) rfl ?_
  exact ⟨rfl, (below_set (below_set (below_set HB3.out GE.out) GE.out) GE.out)⟩
set_option maxHeartbeats 8000000 in
set_option maxRecDepth 100000 in
theorem impl_readChange.cC (A : Option Addr) (c : Nat) (l : List Int) (k : Nat) (w : World) (hC : Kd.C (Kd.int .u8) w A l.length l) (hc : l.length ≤ c) (h0 : 0 < l.length) (hk : l.getD 0 0 = (k : Int)) (hk2 : k < 256) (hA : k ≤ (l.drop 1).length) (hB : 2 ≤ ((l.drop 1).drop k).length) (j : Nat) (hj : j ≤ 65534) (hn : impl_bigOf.f 3 (((l.drop 1).drop k).take 2) = some ((j : Int) + 1)) (hC3 : (((l.drop 1).drop k).drop 2).length < j) :
    Calls Try.prog 86 #[.slice A l.length c] w fun e w' => (∃ s0 s1 b, e = .returned (.tuple #[.agg #[.string s0, .string s1, .bool b], .slice none 0 0, .bool false])) ∧ Below w.heap.size w w' := by
  have hu := Try.underlying95
  have hl : l.length ≤ 9223372036854775807 := hC.2.1
  obtain ⟨i0, hi0, _, hsz, _⟩ := info_parts info5
  obtain ⟨A1, k1, r1, q1⟩ := print_cut_int (P := Try.prog) (k := .u8) 29 5 Try.underlying29 hi0 hsz A c l 1 (by omega) (by omega) hc
  have hR : ReadsInt w .u8 A l.length l := Kd.reads_of_C (enc := Value.int .u8) (d := (0 : Int)) (h1 := fun _ => rfl) hC
  obtain ⟨ad, rfl, hx⟩ := hR.at_ 0 (by omega) (by omega)
  have F1 := Aside0.mk (show ∀ W, Kd.C (Kd.int .u8) W (some ad) l.length l → Kd.C (Kd.int .u8) W A1 (l.drop 1).length (l.drop 1) from fun W hW => Kd.C_of_reads (h1 := fun _ => rfl) (r1 W (Kd.reads_of_C (enc := Value.int .u8) (d := (0 : Int)) (h1 := fun _ => rfl) hW)))
  have HC0 := Aside0.mk hC
  have Q1 := Aside0.mk (show (l.drop 1).length ≤ c - 1 from q1)
  rw [show (1 : Int).toNat = 1 from rfl] at k1
  rw [show rd l 0 = l.getD 0 0 from rfl, show (0 : Int).toNat = 0 from rfl, hk, show ad.add 0 = ad by unfold Addr.add; simp] at hx
  have h0z : (0 : Int) < (l.length : Int) := by omega
  have hkz : (k : Int) < 256 := by omega
  have hwk : IntKind.i64.wrap (k : Int) = k := by rw [IntKind.wrap_i64]; omega
  have hml : (l.drop 1).length ≤ 9223372036854775807 := by rw [List.length_drop]; omega
  generalize hm : l.drop 1 = m at *
  have HM := Aside0.mk hm
  clear hm
  have HT1 := Aside0.mk (fun W hW => impl_taken.yes A1 (c - 1) m k W hW Q1.out hA)
  have HT2 := Aside0.mk (show ∀ (A2 : Option Addr) (W : World), Kd.C (Kd.int .u8) W A2 (m.drop k).length (m.drop k) → (m.drop k).length ≤ c - 1 - k → Calls Try.prog 97 #[.slice A2 (m.drop k).length (c - 1 - k), .int .i64 2] W fun e w' => ∃ A3, e = .returned (.tuple #[.slice A2 ((m.drop k).take 2).length (c - 1 - k), .slice A3 ((m.drop k).drop 2).length (c - 1 - k - 2), .bool true]) ∧ (∀ W, Kd.C (Kd.int .u8) W A2 (m.drop k).length (m.drop k) → Kd.C (Kd.int .u8) W A2 ((m.drop k).take 2).length ((m.drop k).take 2)) ∧ ((m.drop k).take 2).length ≤ c - 1 - k ∧ (∀ W, Kd.C (Kd.int .u8) W A2 (m.drop k).length (m.drop k) → Kd.C (Kd.int .u8) W A3 ((m.drop k).drop 2).length ((m.drop k).drop 2)) ∧ ((m.drop k).drop 2).length ≤ c - 1 - k - 2 ∧ Below W.heap.size W w' from fun A2 W h1 h2 => impl_taken.yes A2 (c - 1 - k) (m.drop k) 2 W h1 h2 hB)
  have HBG := Aside0.mk (fun (A2 : Option Addr) (W : World) h1 h2 => impl_bigOf.calls 3 A2 (c - 1 - k) ((m.drop k).take 2) ((j : Int) + 1) W h1 h2 hn)
  have hjz : (j : Int) ≤ 65534 := by omega
  have hje : ((j : Int) + 1 == 0) = false := by simp; omega
  have hjp : ¬ ((j : Int) + 1 - 1 < 0) := by omega
  have hjw : (j : Int) + 1 - 1 = j := by omega
  have HT3 := Aside0.mk (fun (A3 : Option Addr) (W : World) => impl_taken.no A3 (c - 1 - k - 2) ((m.drop k).drop 2) j W (by rw [List.length_drop, List.length_drop]; omega) hC3)
  clear hR r1 q1 hi0 hsz hC hk hc
  go_enter Try.func86, Try.ntmps86
  go_wp2_with ((with_reducible refine gate_dst (N := 2) rfl ?_); refine box_event ?hg (N := 2) ?hd (cs := #[.string (⟨#[]⟩ : ByteArray), .string (⟨#[]⟩ : ByteArray), .bool false]) (t := 95) ?hr ?_; (case hd => rfl); (case hg => rfl); (case hr => first | (go_simp; done) | (go_simp; rfl)); intro gb hg w2 hbox hb; have GE := Aside0.mk (show w.heap.size ≤ gb by rw [hg]; exact Nat.le_refl _); have HB := Aside0.mk hb; have BX := Aside0.mk hbox; clear hbox hg hb)
  have hx2 : w2.cell? ad = some (.int .u8 (k : Int)) := (HB.out.cell (World.block_lt_of_cell? _ _ hx)).trans hx
  clear hx
  refine start_ (n := 14) (S := fun w' => w'.cell? ad = some (.int .u8 (k : Int))) (ds := [6]) #[false, false, false, false, false, false, false, false, false, false, false, false, false, false] (by kernel_rfl) rfl rfl (hx2) (fun hHeld => ?_)
  refine pure_ (i := 0) (N := some 12) (v := ?_) (a' := ?_) #[true, false, false, false, false, false, false, false, false, false, false, false, false, false] rfl rfl (by kernel_rfl) (fun _ _ _ h => h) (Or.inl ⟨by rfl, ?_⟩) ?_ ?_
  rotate_left
  · intro w'
    go_simp
    with_reducible rfl
  rotate_left
  · simp only [Act.put, List.setIfInBounds_toArray, List.set_cons_zero, List.set_cons_succ, i64_w, i32_w]
    rfl
  refine pure_ (i := 1) (N := some 13) (v := ?_) (a' := ?_) #[true, true, false, false, false, false, false, false, false, false, false, false, false, false] rfl rfl (by kernel_rfl) (fun _ _ _ h => h) (Or.inl ⟨by rfl, ?_⟩) ?_ ?_
  rotate_left
  · intro w'
    go_simp
    with_reducible rfl
  rotate_left
  · simp only [Act.put, List.setIfInBounds_toArray, List.set_cons_zero, List.set_cons_succ, i64_w, i32_w]
    rfl
  refine pure_ (i := 2) (N := some 14) (v := ?_) (a' := ?_) #[true, true, true, false, false, false, false, false, false, false, false, false, false, false] rfl rfl (by kernel_rfl) (fun _ _ _ h => h) (Or.inl ⟨by rfl, ?_⟩) ?_ ?_
  rotate_left
  · intro w'
    go_simp
    with_reducible rfl
  rotate_left
  · simp only [Act.put, List.setIfInBounds_toArray, List.set_cons_zero, List.set_cons_succ, i64_w, i32_w]
    rfl
  refine pure_ (i := 3) (N := some 15) (v := ?_) (a' := ?_) #[true, true, true, true, false, false, false, false, false, false, false, false, false, false] rfl rfl (by kernel_rfl) (fun _ _ _ h => h) (Or.inl ⟨by rfl, ?_⟩) ?_ ?_
  rotate_left
  · intro w'
    go_simp
    with_reducible rfl
  rotate_left
  · simp only [Act.put, List.setIfInBounds_toArray, List.set_cons_zero, List.set_cons_succ, i64_w, i32_w]
    rfl
  refine take_ (i := 4) (N := some 16) (v := ?_) (a' := ?_) #[true, true, true, true, true, false, false, false, false, false, false, false, false, false] rfl rfl (by kernel_rfl) (fun _ _ _ h => h) (Or.inl ⟨by rfl, ?_⟩) hHeld ?_ ?_
  rotate_left
  · intro w' s0
    go_simp
    with_reducible rfl
  rotate_left
  · simp only [Act.put, List.setIfInBounds_toArray, List.set_cons_zero, List.set_cons_succ, i64_w, i32_w]
    rfl
  refine pure_ (i := 5) (N := some 17) (v := ?_) (a' := ?_) #[true, true, true, true, true, true, false, false, false, false, false, false, false, false] rfl rfl (by kernel_rfl) (fun _ _ _ h => h) (Or.inl ⟨by rfl, ?_⟩) ?_ ?_
  rotate_left
  · intro w'
    go_simp
    with_reducible rfl
  rotate_left
  · simp only [Act.put, List.setIfInBounds_toArray, List.set_cons_zero, List.set_cons_succ, i64_w, i32_w]
    rfl
  refine last_ (i := 6) (N := some 18) #[true, true, true, true, true, true, true, false, false, false, false, false, false, false] rfl rfl (by kernel_rfl) (by decide) (fun K hK => ?_)
  refine goes_ Try.func97 (by kernel_rfl) rfl #[.slice A1 m.length (c - 1), .int .i64 (k : Int)] (by rfl) rfl rfl (by simp only [List.map_toArray, List.map_cons, List.map_nil] <;> rfl) ?_
  with_reducible refine (HT1.out _ (F1.out _ (Kd.C_below HC0.out (below_drew1 HB.out)))).mono ?_
  rintro e w3 ⟨A2, rfl, hC1_, hc1_, hC2_, hc2_, hb_⟩
  refine ⟨_, rfl, ?_⟩
  have HB3 := Aside0.mk (below_step (below_drew1 HB.out) hb_); have HCk := Aside0.mk (hC1_ _ (F1.out _ (Kd.C_below HC0.out HB3.out))); have HCr := Aside0.mk (hC2_ _ (F1.out _ (Kd.C_below HC0.out HB3.out))); have FR := Aside0.mk hC2_; have Qk := Aside0.mk hc1_; have Qr := Aside0.mk hc2_; have BX3 := Aside0.mk (box_below (show w2.drew.heap[gb]? = _ from BX.out) hb_); clear hC1_ hc1_ hC2_ hc2_ hb_
  generalize hkey : List.take k m = key at *
  generalize hr1 : List.drop k m = r1 at *
  have HKEY := Aside0.mk hkey; have HR1 := Aside0.mk hr1; clear hkey hr1
  refine hK.out _ _ ?_
  clear hK K
  refine norm_ (a' := ?_) ?_ ?_
  rotate_left
  · show Act.put _ (some 18) _ = _
    simp only [Act.put, List.setIfInBounds_toArray, List.set_cons_zero, List.set_cons_succ, i64_w, i32_w]
    rfl
  refine pure_ (i := 7) (N := some 11) (v := ?_) (a' := ?_) #[true, true, true, true, true, true, true, true, false, false, false, false, false, false] rfl rfl (by kernel_rfl) (fun _ _ _ h => h) (Or.inl ⟨by rfl, ?_⟩) ?_ ?_
  rotate_left
  · intro w'
    go_simp
    with_reducible rfl
  rotate_left
  · simp only [Act.put, List.setIfInBounds_toArray, List.set_cons_zero, List.set_cons_succ, i64_w, i32_w]
    rfl
  refine pure_ (i := 8) (N := some 19) (v := ?_) (a' := ?_) #[true, true, true, true, true, true, true, true, true, false, false, false, false, false] rfl rfl (by kernel_rfl) (fun _ _ _ h => h) (Or.inl ⟨by rfl, ?_⟩) ?_ ?_
  rotate_left
  · intro w'
    go_simp
    with_reducible rfl
  rotate_left
  · simp only [Act.put, List.setIfInBounds_toArray, List.set_cons_zero, List.set_cons_succ, i64_w, i32_w]
    rfl
  refine pure_ (i := 9) (N := some 20) (v := ?_) (a' := ?_) #[true, true, true, true, true, true, true, true, true, true, false, false, false, false] rfl rfl (by kernel_rfl) (fun _ _ _ h => h) (Or.inl ⟨by rfl, ?_⟩) ?_ ?_
  rotate_left
  · intro w'
    go_simp
    with_reducible rfl
  rotate_left
  · simp only [Act.put, List.setIfInBounds_toArray, List.set_cons_zero, List.set_cons_succ, i64_w, i32_w]
    rfl
  refine pure_ (i := 10) (N := some 21) (v := ?_) (a' := ?_) #[true, true, true, true, true, true, true, true, true, true, true, false, false, false] rfl rfl (by kernel_rfl) (fun _ _ _ h => h) (Or.inl ⟨by rfl, ?_⟩) ?_ ?_
  rotate_left
  · intro w'
    go_simp
    with_reducible rfl
  rotate_left
  · simp only [Act.put, List.setIfInBounds_toArray, List.set_cons_zero, List.set_cons_succ, i64_w, i32_w]
    rfl
  refine pure_ (i := 11) (N := some 5) (v := ?_) (a' := ?_) #[true, true, true, true, true, true, true, true, true, true, true, true, false, false] rfl rfl (by kernel_rfl) (fun _ _ _ h => h) (Or.inl ⟨by rfl, ?_⟩) ?_ ?_
  rotate_left
  · intro w'
    go_simp
    with_reducible rfl
  rotate_left
  · simp only [Act.put, List.setIfInBounds_toArray, List.set_cons_zero, List.set_cons_succ, i64_w, i32_w]
    rfl
  refine pure_ (i := 12) (N := some 6) (v := ?_) (a' := ?_) #[true, true, true, true, true, true, true, true, true, true, true, true, true, false] rfl rfl (by kernel_rfl) (fun _ _ _ h => h) (Or.inl ⟨by rfl, ?_⟩) ?_ ?_
  rotate_left
  · intro w'
    go_simp
    with_reducible rfl
  rotate_left
  · simp only [Act.put, List.setIfInBounds_toArray, List.set_cons_zero, List.set_cons_succ, i64_w, i32_w]
    rfl
  refine pure_ (i := 13) (N := some 7) (v := ?_) (a' := ?_) #[true, true, true, true, true, true, true, true, true, true, true, true, true, true] rfl rfl (by kernel_rfl) (fun _ _ _ h => h) (Or.inl ⟨by rfl, ?_⟩) ?_ ?_
  rotate_left
  · intro w'
    go_simp
    with_reducible rfl
  rotate_left
  · simp only [Act.put, List.setIfInBounds_toArray, List.set_cons_zero, List.set_cons_succ, i64_w, i32_w]
    rfl
  refine done_ (by kernel_rfl) ?_

  go_wp2_with (first
    | ((with_reducible refine (HT2.out A2 _ HCr.out Qr.out).mono ?_); rintro e w4 ⟨A3, rfl, a1_, a2_, a3_, a4_, hb_⟩; have HCh := Aside0.mk (a1_ _ (Kd.C_below HCr.out hb_)); have HCs := Aside0.mk (a3_ _ (Kd.C_below HCr.out hb_)); have FS := Aside0.mk a3_; have Qh := Aside0.mk a2_; have Qs := Aside0.mk a4_; have HB4 := Aside0.mk (below_step HB3.out hb_); have BX4 := Aside0.mk (impl_readChange.box_below BX3.out hb_); have HCk4 := Aside0.mk (Kd.C_below HCk.out hb_); clear a1_ a2_ a3_ a4_ hb_; generalize hq1 : List.take 2 r1 = hd at *; generalize hq2 : List.drop 2 r1 = r2 at *; have HQ1 := Aside0.mk hq1; have HQ2 := Aside0.mk hq2; clear hq1 hq2)
    | ((with_reducible refine (HBG.out A2 _ HCh.out Qh.out).mono ?_); rintro e w5 ⟨rfl, hd_⟩; have hb_ := hd_.below; have HB5 := Aside0.mk (below_step HB4.out hb_); have BX5 := Aside0.mk (impl_readChange.box_below BX4.out hb_); have HCk5 := Aside0.mk (Kd.C_below HCk4.out hb_); have HCs5 := Aside0.mk (Kd.C_below HCs.out hb_); clear hd_ hb_; (have y0 : w5.cell? ⟨gb, 0, none⟩ = some (.string (⟨#[]⟩ : ByteArray)) := (blk_cell BX5.out 0).trans rfl); (have y1 : w5.cell? ⟨gb, 1, none⟩ = some (.string (⟨#[]⟩ : ByteArray)) := (blk_cell BX5.out 1).trans rfl); (have y2 : w5.cell? ⟨gb, 2, none⟩ = some (.bool false) := (blk_cell BX5.out 2).trans rfl); (have z0 : w5.frozen? ⟨gb, 0, none⟩ = false := blk_frozen BX5.out 0); (have z1 : w5.frozen? ⟨gb, 1, none⟩ = false := blk_frozen BX5.out 1); (have z2 : w5.frozen? ⟨gb, 2, none⟩ = false := blk_frozen BX5.out 2))
    | ((with_reducible refine (HT3.out A3 _).mono ?_); rintro e w6 ⟨rfl, rfl⟩; have s1 := Kd.C_string (P := Try.prog) (c := c - 1) Try.underlying29 Try.underlying5 Try.underlying9 HCk5.out; have s2 := Kd.C_string (P := Try.prog) (c := 0) Try.underlying29 Try.underlying5 Try.underlying9 (Kd.C_nil (Kd.int .u8) w5); simp only [List.length_nil] at s2))
  refine bodyPost_ret (results_list (rs := [.cell 2 95, .tmp 3, .tmp 4]) rfl (by simp) (.cell gb 95 #[.string (strOfNums key), .string (strOfNums []), .bool false] (0, 0) _ rfl (by refine blk_put (cs := #[.string (strOfNums key), .string (strOfNums []), .bool false]) ?_ 2 _ rfl; refine blk_put (cs := #[.string (strOfNums key), .string (⟨#[]⟩ : ByteArray), .bool false]) ?_ 1 _ rfl; refine blk_put (cs := #[.string (⟨#[]⟩ : ByteArray), .string (⟨#[]⟩ : ByteArray), .bool false]) ?_ 0 _ rfl; exact BX5.out) Try.underlying95 rfl (by kernel_rfl) (.tmp (.tmp .nil)))) rfl ?_
  exact ⟨⟨_, _, _, rfl⟩, (below_set (below_set (below_set HB5.out GE.out) GE.out) GE.out)⟩
set_option maxHeartbeats 8000000 in
set_option maxRecDepth 100000 in
theorem impl_readChange.cZ (A : Option Addr) (c : Nat) (l : List Int) (k : Nat) (w : World) (hC : Kd.C (Kd.int .u8) w A l.length l) (hc : l.length ≤ c) (h0 : 0 < l.length) (hk : l.getD 0 0 = (k : Int)) (hk2 : k < 256) (hA : k ≤ (l.drop 1).length) (hB : 2 ≤ ((l.drop 1).drop k).length) (hn : impl_bigOf.f 3 (((l.drop 1).drop k).take 2) = some 0) :
    Calls Try.prog 86 #[.slice A l.length c] w fun e w' => ∃ A' c', e = .returned (.tuple #[.agg #[.string (strOfNums ((l.drop 1).take k)), .string (strOfNums ((((l.drop 1).drop k).drop 2).take 0)), .bool true], .slice A' ((((l.drop 1).drop k).drop 2).drop 0).length c', .bool true]) ∧ (∀ W, Kd.C (Kd.int .u8) W A l.length l → Kd.C (Kd.int .u8) W A' ((((l.drop 1).drop k).drop 2).drop 0).length ((((l.drop 1).drop k).drop 2).drop 0)) ∧ ((((l.drop 1).drop k).drop 2).drop 0).length ≤ c' ∧ Below w.heap.size w w' := by
  have hu := Try.underlying95
  have hl : l.length ≤ 9223372036854775807 := hC.2.1
  obtain ⟨i0, hi0, _, hsz, _⟩ := info_parts info5
  obtain ⟨A1, k1, r1, q1⟩ := print_cut_int (P := Try.prog) (k := .u8) 29 5 Try.underlying29 hi0 hsz A c l 1 (by omega) (by omega) hc
  have hR : ReadsInt w .u8 A l.length l := Kd.reads_of_C (enc := Value.int .u8) (d := (0 : Int)) (h1 := fun _ => rfl) hC
  obtain ⟨ad, rfl, hx⟩ := hR.at_ 0 (by omega) (by omega)
  have F1 := Aside0.mk (show ∀ W, Kd.C (Kd.int .u8) W (some ad) l.length l → Kd.C (Kd.int .u8) W A1 (l.drop 1).length (l.drop 1) from fun W hW => Kd.C_of_reads (h1 := fun _ => rfl) (r1 W (Kd.reads_of_C (enc := Value.int .u8) (d := (0 : Int)) (h1 := fun _ => rfl) hW)))
  have HC0 := Aside0.mk hC
  have Q1 := Aside0.mk (show (l.drop 1).length ≤ c - 1 from q1)
  rw [show (1 : Int).toNat = 1 from rfl] at k1
  rw [show rd l 0 = l.getD 0 0 from rfl, show (0 : Int).toNat = 0 from rfl, hk, show ad.add 0 = ad by unfold Addr.add; simp] at hx
  have h0z : (0 : Int) < (l.length : Int) := by omega
  have hkz : (k : Int) < 256 := by omega
  have hwk : IntKind.i64.wrap (k : Int) = k := by rw [IntKind.wrap_i64]; omega
  have hml : (l.drop 1).length ≤ 9223372036854775807 := by rw [List.length_drop]; omega
  generalize hm : l.drop 1 = m at *
  have HM := Aside0.mk hm
  clear hm
  have HT1 := Aside0.mk (fun W hW => impl_taken.yes A1 (c - 1) m k W hW Q1.out hA)
  have HT2 := Aside0.mk (show ∀ (A2 : Option Addr) (W : World), Kd.C (Kd.int .u8) W A2 (m.drop k).length (m.drop k) → (m.drop k).length ≤ c - 1 - k → Calls Try.prog 97 #[.slice A2 (m.drop k).length (c - 1 - k), .int .i64 2] W fun e w' => ∃ A3, e = .returned (.tuple #[.slice A2 ((m.drop k).take 2).length (c - 1 - k), .slice A3 ((m.drop k).drop 2).length (c - 1 - k - 2), .bool true]) ∧ (∀ W, Kd.C (Kd.int .u8) W A2 (m.drop k).length (m.drop k) → Kd.C (Kd.int .u8) W A2 ((m.drop k).take 2).length ((m.drop k).take 2)) ∧ ((m.drop k).take 2).length ≤ c - 1 - k ∧ (∀ W, Kd.C (Kd.int .u8) W A2 (m.drop k).length (m.drop k) → Kd.C (Kd.int .u8) W A3 ((m.drop k).drop 2).length ((m.drop k).drop 2)) ∧ ((m.drop k).drop 2).length ≤ c - 1 - k - 2 ∧ Below W.heap.size W w' from fun A2 W h1 h2 => impl_taken.yes A2 (c - 1 - k) (m.drop k) 2 W h1 h2 hB)
  have HBG := Aside0.mk (fun (A2 : Option Addr) (W : World) h1 h2 => impl_bigOf.calls 3 A2 (c - 1 - k) ((m.drop k).take 2) (0) W h1 h2 hn)
  have HT3 := Aside0.mk (show ∀ (A3 : Option Addr) (W : World), Kd.C (Kd.int .u8) W A3 ((m.drop k).drop 2).length ((m.drop k).drop 2) → ((m.drop k).drop 2).length ≤ c - 1 - k - 2 → Calls Try.prog 97 #[.slice A3 ((m.drop k).drop 2).length (c - 1 - k - 2), .int .i64 0] W fun e w' => ∃ A4, e = .returned (.tuple #[.slice A3 (((m.drop k).drop 2).take 0).length (c - 1 - k - 2), .slice A4 (((m.drop k).drop 2).drop 0).length (c - 1 - k - 2 - 0), .bool true]) ∧ (∀ W, Kd.C (Kd.int .u8) W A3 ((m.drop k).drop 2).length ((m.drop k).drop 2) → Kd.C (Kd.int .u8) W A3 (((m.drop k).drop 2).take 0).length (((m.drop k).drop 2).take 0)) ∧ (((m.drop k).drop 2).take 0).length ≤ c - 1 - k - 2 ∧ (∀ W, Kd.C (Kd.int .u8) W A3 ((m.drop k).drop 2).length ((m.drop k).drop 2) → Kd.C (Kd.int .u8) W A4 (((m.drop k).drop 2).drop 0).length (((m.drop k).drop 2).drop 0)) ∧ (((m.drop k).drop 2).drop 0).length ≤ c - 1 - k - 2 - 0 ∧ Below W.heap.size W w' from fun A3 W h1 h2 => impl_taken.yes A3 (c - 1 - k - 2) ((m.drop k).drop 2) 0 W h1 h2 (Nat.zero_le _))
  clear hR r1 q1 hi0 hsz hC hk hc
  go_enter Try.func86, Try.ntmps86
  go_wp2_with ((with_reducible refine gate_dst (N := 2) rfl ?_); refine box_event ?hg (N := 2) ?hd (cs := #[.string (⟨#[]⟩ : ByteArray), .string (⟨#[]⟩ : ByteArray), .bool false]) (t := 95) ?hr ?_; (case hd => rfl); (case hg => rfl); (case hr => first | (go_simp; done) | (go_simp; rfl)); intro gb hg w2 hbox hb; have GE := Aside0.mk (show w.heap.size ≤ gb by rw [hg]; exact Nat.le_refl _); have HB := Aside0.mk hb; have BX := Aside0.mk hbox; clear hbox hg hb)
  have hx2 : w2.cell? ad = some (.int .u8 (k : Int)) := (HB.out.cell (World.block_lt_of_cell? _ _ hx)).trans hx
  clear hx
  refine start_ (n := 14) (S := fun w' => w'.cell? ad = some (.int .u8 (k : Int))) (ds := [6]) #[false, false, false, false, false, false, false, false, false, false, false, false, false, false] (by kernel_rfl) rfl rfl (hx2) (fun hHeld => ?_)
  refine pure_ (i := 0) (N := some 12) (v := ?_) (a' := ?_) #[true, false, false, false, false, false, false, false, false, false, false, false, false, false] rfl rfl (by kernel_rfl) (fun _ _ _ h => h) (Or.inl ⟨by rfl, ?_⟩) ?_ ?_
  rotate_left
  · intro w'
    go_simp
    with_reducible rfl
  rotate_left
  · simp only [Act.put, List.setIfInBounds_toArray, List.set_cons_zero, List.set_cons_succ, i64_w, i32_w]
    rfl
  refine pure_ (i := 1) (N := some 13) (v := ?_) (a' := ?_) #[true, true, false, false, false, false, false, false, false, false, false, false, false, false] rfl rfl (by kernel_rfl) (fun _ _ _ h => h) (Or.inl ⟨by rfl, ?_⟩) ?_ ?_
  rotate_left
  · intro w'
    go_simp
    with_reducible rfl
  rotate_left
  · simp only [Act.put, List.setIfInBounds_toArray, List.set_cons_zero, List.set_cons_succ, i64_w, i32_w]
    rfl
  refine pure_ (i := 2) (N := some 14) (v := ?_) (a' := ?_) #[true, true, true, false, false, false, false, false, false, false, false, false, false, false] rfl rfl (by kernel_rfl) (fun _ _ _ h => h) (Or.inl ⟨by rfl, ?_⟩) ?_ ?_
  rotate_left
  · intro w'
    go_simp
    with_reducible rfl
  rotate_left
  · simp only [Act.put, List.setIfInBounds_toArray, List.set_cons_zero, List.set_cons_succ, i64_w, i32_w]
    rfl
  refine pure_ (i := 3) (N := some 15) (v := ?_) (a' := ?_) #[true, true, true, true, false, false, false, false, false, false, false, false, false, false] rfl rfl (by kernel_rfl) (fun _ _ _ h => h) (Or.inl ⟨by rfl, ?_⟩) ?_ ?_
  rotate_left
  · intro w'
    go_simp
    with_reducible rfl
  rotate_left
  · simp only [Act.put, List.setIfInBounds_toArray, List.set_cons_zero, List.set_cons_succ, i64_w, i32_w]
    rfl
  refine take_ (i := 4) (N := some 16) (v := ?_) (a' := ?_) #[true, true, true, true, true, false, false, false, false, false, false, false, false, false] rfl rfl (by kernel_rfl) (fun _ _ _ h => h) (Or.inl ⟨by rfl, ?_⟩) hHeld ?_ ?_
  rotate_left
  · intro w' s0
    go_simp
    with_reducible rfl
  rotate_left
  · simp only [Act.put, List.setIfInBounds_toArray, List.set_cons_zero, List.set_cons_succ, i64_w, i32_w]
    rfl
  refine pure_ (i := 5) (N := some 17) (v := ?_) (a' := ?_) #[true, true, true, true, true, true, false, false, false, false, false, false, false, false] rfl rfl (by kernel_rfl) (fun _ _ _ h => h) (Or.inl ⟨by rfl, ?_⟩) ?_ ?_
  rotate_left
  · intro w'
    go_simp
    with_reducible rfl
  rotate_left
  · simp only [Act.put, List.setIfInBounds_toArray, List.set_cons_zero, List.set_cons_succ, i64_w, i32_w]
    rfl
  refine last_ (i := 6) (N := some 18) #[true, true, true, true, true, true, true, false, false, false, false, false, false, false] rfl rfl (by kernel_rfl) (by decide) (fun K hK => ?_)
  refine goes_ Try.func97 (by kernel_rfl) rfl #[.slice A1 m.length (c - 1), .int .i64 (k : Int)] (by rfl) rfl rfl (by simp only [List.map_toArray, List.map_cons, List.map_nil] <;> rfl) ?_
  with_reducible refine (HT1.out _ (F1.out _ (Kd.C_below HC0.out (below_drew1 HB.out)))).mono ?_
  rintro e w3 ⟨A2, rfl, hC1_, hc1_, hC2_, hc2_, hb_⟩
  refine ⟨_, rfl, ?_⟩
  have HB3 := Aside0.mk (below_step (below_drew1 HB.out) hb_); have HCk := Aside0.mk (hC1_ _ (F1.out _ (Kd.C_below HC0.out HB3.out))); have HCr := Aside0.mk (hC2_ _ (F1.out _ (Kd.C_below HC0.out HB3.out))); have FR := Aside0.mk hC2_; have Qk := Aside0.mk hc1_; have Qr := Aside0.mk hc2_; have BX3 := Aside0.mk (box_below (show w2.drew.heap[gb]? = _ from BX.out) hb_); clear hC1_ hc1_ hC2_ hc2_ hb_
  generalize hkey : List.take k m = key at *
  generalize hr1 : List.drop k m = r1 at *
  have HKEY := Aside0.mk hkey; have HR1 := Aside0.mk hr1; clear hkey hr1
  refine hK.out _ _ ?_
  clear hK K
  refine norm_ (a' := ?_) ?_ ?_
  rotate_left
  · show Act.put _ (some 18) _ = _
    simp only [Act.put, List.setIfInBounds_toArray, List.set_cons_zero, List.set_cons_succ, i64_w, i32_w]
    rfl
  refine pure_ (i := 7) (N := some 11) (v := ?_) (a' := ?_) #[true, true, true, true, true, true, true, true, false, false, false, false, false, false] rfl rfl (by kernel_rfl) (fun _ _ _ h => h) (Or.inl ⟨by rfl, ?_⟩) ?_ ?_
  rotate_left
  · intro w'
    go_simp
    with_reducible rfl
  rotate_left
  · simp only [Act.put, List.setIfInBounds_toArray, List.set_cons_zero, List.set_cons_succ, i64_w, i32_w]
    rfl
  refine pure_ (i := 8) (N := some 19) (v := ?_) (a' := ?_) #[true, true, true, true, true, true, true, true, true, false, false, false, false, false] rfl rfl (by kernel_rfl) (fun _ _ _ h => h) (Or.inl ⟨by rfl, ?_⟩) ?_ ?_
  rotate_left
  · intro w'
    go_simp
    with_reducible rfl
  rotate_left
  · simp only [Act.put, List.setIfInBounds_toArray, List.set_cons_zero, List.set_cons_succ, i64_w, i32_w]
    rfl
  refine pure_ (i := 9) (N := some 20) (v := ?_) (a' := ?_) #[true, true, true, true, true, true, true, true, true, true, false, false, false, false] rfl rfl (by kernel_rfl) (fun _ _ _ h => h) (Or.inl ⟨by rfl, ?_⟩) ?_ ?_
  rotate_left
  · intro w'
    go_simp
    with_reducible rfl
  rotate_left
  · simp only [Act.put, List.setIfInBounds_toArray, List.set_cons_zero, List.set_cons_succ, i64_w, i32_w]
    rfl
  refine pure_ (i := 10) (N := some 21) (v := ?_) (a' := ?_) #[true, true, true, true, true, true, true, true, true, true, true, false, false, false] rfl rfl (by kernel_rfl) (fun _ _ _ h => h) (Or.inl ⟨by rfl, ?_⟩) ?_ ?_
  rotate_left
  · intro w'
    go_simp
    with_reducible rfl
  rotate_left
  · simp only [Act.put, List.setIfInBounds_toArray, List.set_cons_zero, List.set_cons_succ, i64_w, i32_w]
    rfl
  refine pure_ (i := 11) (N := some 5) (v := ?_) (a' := ?_) #[true, true, true, true, true, true, true, true, true, true, true, true, false, false] rfl rfl (by kernel_rfl) (fun _ _ _ h => h) (Or.inl ⟨by rfl, ?_⟩) ?_ ?_
  rotate_left
  · intro w'
    go_simp
    with_reducible rfl
  rotate_left
  · simp only [Act.put, List.setIfInBounds_toArray, List.set_cons_zero, List.set_cons_succ, i64_w, i32_w]
    rfl
  refine pure_ (i := 12) (N := some 6) (v := ?_) (a' := ?_) #[true, true, true, true, true, true, true, true, true, true, true, true, true, false] rfl rfl (by kernel_rfl) (fun _ _ _ h => h) (Or.inl ⟨by rfl, ?_⟩) ?_ ?_
  rotate_left
  · intro w'
    go_simp
    with_reducible rfl
  rotate_left
  · simp only [Act.put, List.setIfInBounds_toArray, List.set_cons_zero, List.set_cons_succ, i64_w, i32_w]
    rfl
  refine pure_ (i := 13) (N := some 7) (v := ?_) (a' := ?_) #[true, true, true, true, true, true, true, true, true, true, true, true, true, true] rfl rfl (by kernel_rfl) (fun _ _ _ h => h) (Or.inl ⟨by rfl, ?_⟩) ?_ ?_
  rotate_left
  · intro w'
    go_simp
    with_reducible rfl
  rotate_left
  · simp only [Act.put, List.setIfInBounds_toArray, List.set_cons_zero, List.set_cons_succ, i64_w, i32_w]
    rfl
  refine done_ (by kernel_rfl) ?_

  go_wp2_with (first
    | ((with_reducible refine (HT2.out A2 _ HCr.out Qr.out).mono ?_); rintro e w4 ⟨A3, rfl, a1_, a2_, a3_, a4_, hb_⟩; have HCh := Aside0.mk (a1_ _ (Kd.C_below HCr.out hb_)); have HCs := Aside0.mk (a3_ _ (Kd.C_below HCr.out hb_)); have FS := Aside0.mk a3_; have Qh := Aside0.mk a2_; have Qs := Aside0.mk a4_; have HB4 := Aside0.mk (below_step HB3.out hb_); have BX4 := Aside0.mk (impl_readChange.box_below BX3.out hb_); have HCk4 := Aside0.mk (Kd.C_below HCk.out hb_); clear a1_ a2_ a3_ a4_ hb_; generalize hq1 : List.take 2 r1 = hd at *; generalize hq2 : List.drop 2 r1 = r2 at *; have HQ1 := Aside0.mk hq1; have HQ2 := Aside0.mk hq2; clear hq1 hq2)
    | ((with_reducible refine (HBG.out A2 _ HCh.out Qh.out).mono ?_); rintro e w5 ⟨rfl, hd_⟩; have hb_ := hd_.below; have HB5 := Aside0.mk (below_step HB4.out hb_); have BX5 := Aside0.mk (impl_readChange.box_below BX4.out hb_); have HCk5 := Aside0.mk (Kd.C_below HCk4.out hb_); have HCs5 := Aside0.mk (Kd.C_below HCs.out hb_); clear hd_ hb_)
    | ((with_reducible refine (HT3.out A3 _ HCs5.out Qs.out).mono ?_); rintro e w6 ⟨A4, rfl, a1_, a2_, a3_, a4_, hb_⟩; have HCv := Aside0.mk (a1_ _ (Kd.C_below HCs5.out hb_)); have FT := Aside0.mk a3_; have Qt := Aside0.mk a4_; have HB6 := Aside0.mk (below_step HB5.out hb_); have BX6 := Aside0.mk (impl_readChange.box_below BX5.out hb_); have HCk6 := Aside0.mk (Kd.C_below HCk5.out hb_); clear a1_ a2_ a3_ a4_ hb_; generalize hq3 : List.take 0 r2 = vl at *; generalize hq4 : List.drop 0 r2 = r3 at *; have HQ3 := Aside0.mk hq3; have HQ4 := Aside0.mk hq4; clear hq3 hq4; have s1 := Kd.C_string (P := Try.prog) (c := c - 1) Try.underlying29 Try.underlying5 Try.underlying9 HCk6.out; have s2 := Kd.C_string (P := Try.prog) (c := c - 1 - k - 2) Try.underlying29 Try.underlying5 Try.underlying9 HCv.out; (have y0 : w6.cell? ⟨gb, 0, none⟩ = some (.string (⟨#[]⟩ : ByteArray)) := (blk_cell BX6.out 0).trans rfl); (have y1 : w6.cell? ⟨gb, 1, none⟩ = some (.string (⟨#[]⟩ : ByteArray)) := (blk_cell BX6.out 1).trans rfl); (have y2 : w6.cell? ⟨gb, 2, none⟩ = some (.bool false) := (blk_cell BX6.out 2).trans rfl); (have z0 : w6.frozen? ⟨gb, 0, none⟩ = false := blk_frozen BX6.out 0); (have z1 : w6.frozen? ⟨gb, 1, none⟩ = false := blk_frozen BX6.out 1); (have z2 : w6.frozen? ⟨gb, 2, none⟩ = false := blk_frozen BX6.out 2)))
  refine bodyPost_ret (results_list (rs := [.cell 2 95, .tmp 3, .tmp 4]) rfl (by simp) (.cell gb 95 #[.string (strOfNums key), .string (strOfNums vl), .bool true] (0, 0) _ rfl (by refine blk_put (cs := #[.string (strOfNums key), .string (strOfNums vl), .bool false]) ?_ 2 _ rfl; refine blk_put (cs := #[.string (strOfNums key), .string (⟨#[]⟩ : ByteArray), .bool false]) ?_ 1 _ rfl; refine blk_put (cs := #[.string (⟨#[]⟩ : ByteArray), .string (⟨#[]⟩ : ByteArray), .bool false]) ?_ 0 _ rfl; exact BX6.out) Try.underlying95 rfl (by kernel_rfl) (.tmp (.tmp .nil)))) rfl ?_
  rw [HKEY.out, HR1.out, HQ2.out, HQ3.out, HQ4.out]
  exact ⟨_, _, rfl, fun W hW => FT.out _ (FS.out _ (FR.out _ (F1.out _ hW))), Qt.out, (below_set (below_set (below_set HB6.out GE.out) GE.out) GE.out)⟩
set_option maxHeartbeats 8000000 in
set_option maxRecDepth 100000 in
theorem impl_readChange.cD (A : Option Addr) (c : Nat) (l : List Int) (k : Nat) (w : World) (hC : Kd.C (Kd.int .u8) w A l.length l) (hc : l.length ≤ c) (h0 : 0 < l.length) (hk : l.getD 0 0 = (k : Int)) (hk2 : k < 256) (hA : k ≤ (l.drop 1).length) (hB : 2 ≤ ((l.drop 1).drop k).length) (j : Nat) (hj : j ≤ 65534) (hn : impl_bigOf.f 3 (((l.drop 1).drop k).take 2) = some ((j : Int) + 1)) (hC3 : j ≤ (((l.drop 1).drop k).drop 2).length) :
    Calls Try.prog 86 #[.slice A l.length c] w fun e w' => ∃ A' c', e = .returned (.tuple #[.agg #[.string (strOfNums ((l.drop 1).take k)), .string (strOfNums ((((l.drop 1).drop k).drop 2).take j)), .bool false], .slice A' ((((l.drop 1).drop k).drop 2).drop j).length c', .bool true]) ∧ (∀ W, Kd.C (Kd.int .u8) W A l.length l → Kd.C (Kd.int .u8) W A' ((((l.drop 1).drop k).drop 2).drop j).length ((((l.drop 1).drop k).drop 2).drop j)) ∧ ((((l.drop 1).drop k).drop 2).drop j).length ≤ c' ∧ Below w.heap.size w w' := by
  have hu := Try.underlying95
  have hl : l.length ≤ 9223372036854775807 := hC.2.1
  obtain ⟨i0, hi0, _, hsz, _⟩ := info_parts info5
  obtain ⟨A1, k1, r1, q1⟩ := print_cut_int (P := Try.prog) (k := .u8) 29 5 Try.underlying29 hi0 hsz A c l 1 (by omega) (by omega) hc
  have hR : ReadsInt w .u8 A l.length l := Kd.reads_of_C (enc := Value.int .u8) (d := (0 : Int)) (h1 := fun _ => rfl) hC
  obtain ⟨ad, rfl, hx⟩ := hR.at_ 0 (by omega) (by omega)
  have F1 := Aside0.mk (show ∀ W, Kd.C (Kd.int .u8) W (some ad) l.length l → Kd.C (Kd.int .u8) W A1 (l.drop 1).length (l.drop 1) from fun W hW => Kd.C_of_reads (h1 := fun _ => rfl) (r1 W (Kd.reads_of_C (enc := Value.int .u8) (d := (0 : Int)) (h1 := fun _ => rfl) hW)))
  have HC0 := Aside0.mk hC
  have Q1 := Aside0.mk (show (l.drop 1).length ≤ c - 1 from q1)
  rw [show (1 : Int).toNat = 1 from rfl] at k1
  rw [show rd l 0 = l.getD 0 0 from rfl, show (0 : Int).toNat = 0 from rfl, hk, show ad.add 0 = ad by unfold Addr.add; simp] at hx
  have h0z : (0 : Int) < (l.length : Int) := by omega
  have hkz : (k : Int) < 256 := by omega
  have hwk : IntKind.i64.wrap (k : Int) = k := by rw [IntKind.wrap_i64]; omega
  have hml : (l.drop 1).length ≤ 9223372036854775807 := by rw [List.length_drop]; omega
  generalize hm : l.drop 1 = m at *
  have HM := Aside0.mk hm
  clear hm
  have HT1 := Aside0.mk (fun W hW => impl_taken.yes A1 (c - 1) m k W hW Q1.out hA)
  have HT2 := Aside0.mk (show ∀ (A2 : Option Addr) (W : World), Kd.C (Kd.int .u8) W A2 (m.drop k).length (m.drop k) → (m.drop k).length ≤ c - 1 - k → Calls Try.prog 97 #[.slice A2 (m.drop k).length (c - 1 - k), .int .i64 2] W fun e w' => ∃ A3, e = .returned (.tuple #[.slice A2 ((m.drop k).take 2).length (c - 1 - k), .slice A3 ((m.drop k).drop 2).length (c - 1 - k - 2), .bool true]) ∧ (∀ W, Kd.C (Kd.int .u8) W A2 (m.drop k).length (m.drop k) → Kd.C (Kd.int .u8) W A2 ((m.drop k).take 2).length ((m.drop k).take 2)) ∧ ((m.drop k).take 2).length ≤ c - 1 - k ∧ (∀ W, Kd.C (Kd.int .u8) W A2 (m.drop k).length (m.drop k) → Kd.C (Kd.int .u8) W A3 ((m.drop k).drop 2).length ((m.drop k).drop 2)) ∧ ((m.drop k).drop 2).length ≤ c - 1 - k - 2 ∧ Below W.heap.size W w' from fun A2 W h1 h2 => impl_taken.yes A2 (c - 1 - k) (m.drop k) 2 W h1 h2 hB)
  have HBG := Aside0.mk (fun (A2 : Option Addr) (W : World) h1 h2 => impl_bigOf.calls 3 A2 (c - 1 - k) ((m.drop k).take 2) ((j : Int) + 1) W h1 h2 hn)
  have hjz : (j : Int) ≤ 65534 := by omega
  have hje : ((j : Int) + 1 == 0) = false := by simp; omega
  have hjp : ¬ ((j : Int) + 1 - 1 < 0) := by omega
  have hjw : (j : Int) + 1 - 1 = j := by omega
  have HT3 := Aside0.mk (fun (A3 : Option Addr) (W : World) h1 h2 => impl_taken.yes A3 (c - 1 - k - 2) ((m.drop k).drop 2) j W h1 h2 hC3)
  clear hR r1 q1 hi0 hsz hC hk hc
  go_enter Try.func86, Try.ntmps86
  go_wp2_with ((with_reducible refine gate_dst (N := 2) rfl ?_); refine box_event ?hg (N := 2) ?hd (cs := #[.string (⟨#[]⟩ : ByteArray), .string (⟨#[]⟩ : ByteArray), .bool false]) (t := 95) ?hr ?_; (case hd => rfl); (case hg => rfl); (case hr => first | (go_simp; done) | (go_simp; rfl)); intro gb hg w2 hbox hb; have GE := Aside0.mk (show w.heap.size ≤ gb by rw [hg]; exact Nat.le_refl _); have HB := Aside0.mk hb; have BX := Aside0.mk hbox; clear hbox hg hb)
  have hx2 : w2.cell? ad = some (.int .u8 (k : Int)) := (HB.out.cell (World.block_lt_of_cell? _ _ hx)).trans hx
  clear hx
  refine start_ (n := 14) (S := fun w' => w'.cell? ad = some (.int .u8 (k : Int))) (ds := [6]) #[false, false, false, false, false, false, false, false, false, false, false, false, false, false] (by kernel_rfl) rfl rfl (hx2) (fun hHeld => ?_)
  refine pure_ (i := 0) (N := some 12) (v := ?_) (a' := ?_) #[true, false, false, false, false, false, false, false, false, false, false, false, false, false] rfl rfl (by kernel_rfl) (fun _ _ _ h => h) (Or.inl ⟨by rfl, ?_⟩) ?_ ?_
  rotate_left
  · intro w'
    go_simp
    with_reducible rfl
  rotate_left
  · simp only [Act.put, List.setIfInBounds_toArray, List.set_cons_zero, List.set_cons_succ, i64_w, i32_w]
    rfl
  refine pure_ (i := 1) (N := some 13) (v := ?_) (a' := ?_) #[true, true, false, false, false, false, false, false, false, false, false, false, false, false] rfl rfl (by kernel_rfl) (fun _ _ _ h => h) (Or.inl ⟨by rfl, ?_⟩) ?_ ?_
  rotate_left
  · intro w'
    go_simp
    with_reducible rfl
  rotate_left
  · simp only [Act.put, List.setIfInBounds_toArray, List.set_cons_zero, List.set_cons_succ, i64_w, i32_w]
    rfl
  refine pure_ (i := 2) (N := some 14) (v := ?_) (a' := ?_) #[true, true, true, false, false, false, false, false, false, false, false, false, false, false] rfl rfl (by kernel_rfl) (fun _ _ _ h => h) (Or.inl ⟨by rfl, ?_⟩) ?_ ?_
  rotate_left
  · intro w'
    go_simp
    with_reducible rfl
  rotate_left
  · simp only [Act.put, List.setIfInBounds_toArray, List.set_cons_zero, List.set_cons_succ, i64_w, i32_w]
    rfl
  refine pure_ (i := 3) (N := some 15) (v := ?_) (a' := ?_) #[true, true, true, true, false, false, false, false, false, false, false, false, false, false] rfl rfl (by kernel_rfl) (fun _ _ _ h => h) (Or.inl ⟨by rfl, ?_⟩) ?_ ?_
  rotate_left
  · intro w'
    go_simp
    with_reducible rfl
  rotate_left
  · simp only [Act.put, List.setIfInBounds_toArray, List.set_cons_zero, List.set_cons_succ, i64_w, i32_w]
    rfl
  refine take_ (i := 4) (N := some 16) (v := ?_) (a' := ?_) #[true, true, true, true, true, false, false, false, false, false, false, false, false, false] rfl rfl (by kernel_rfl) (fun _ _ _ h => h) (Or.inl ⟨by rfl, ?_⟩) hHeld ?_ ?_
  rotate_left
  · intro w' s0
    go_simp
    with_reducible rfl
  rotate_left
  · simp only [Act.put, List.setIfInBounds_toArray, List.set_cons_zero, List.set_cons_succ, i64_w, i32_w]
    rfl
  refine pure_ (i := 5) (N := some 17) (v := ?_) (a' := ?_) #[true, true, true, true, true, true, false, false, false, false, false, false, false, false] rfl rfl (by kernel_rfl) (fun _ _ _ h => h) (Or.inl ⟨by rfl, ?_⟩) ?_ ?_
  rotate_left
  · intro w'
    go_simp
    with_reducible rfl
  rotate_left
  · simp only [Act.put, List.setIfInBounds_toArray, List.set_cons_zero, List.set_cons_succ, i64_w, i32_w]
    rfl
  refine last_ (i := 6) (N := some 18) #[true, true, true, true, true, true, true, false, false, false, false, false, false, false] rfl rfl (by kernel_rfl) (by decide) (fun K hK => ?_)
  refine goes_ Try.func97 (by kernel_rfl) rfl #[.slice A1 m.length (c - 1), .int .i64 (k : Int)] (by rfl) rfl rfl (by simp only [List.map_toArray, List.map_cons, List.map_nil] <;> rfl) ?_
  with_reducible refine (HT1.out _ (F1.out _ (Kd.C_below HC0.out (below_drew1 HB.out)))).mono ?_
  rintro e w3 ⟨A2, rfl, hC1_, hc1_, hC2_, hc2_, hb_⟩
  refine ⟨_, rfl, ?_⟩
  have HB3 := Aside0.mk (below_step (below_drew1 HB.out) hb_); have HCk := Aside0.mk (hC1_ _ (F1.out _ (Kd.C_below HC0.out HB3.out))); have HCr := Aside0.mk (hC2_ _ (F1.out _ (Kd.C_below HC0.out HB3.out))); have FR := Aside0.mk hC2_; have Qk := Aside0.mk hc1_; have Qr := Aside0.mk hc2_; have BX3 := Aside0.mk (box_below (show w2.drew.heap[gb]? = _ from BX.out) hb_); clear hC1_ hc1_ hC2_ hc2_ hb_
  generalize hkey : List.take k m = key at *
  generalize hr1 : List.drop k m = r1 at *
  have HKEY := Aside0.mk hkey; have HR1 := Aside0.mk hr1; clear hkey hr1
  refine hK.out _ _ ?_
  clear hK K
  refine norm_ (a' := ?_) ?_ ?_
  rotate_left
  · show Act.put _ (some 18) _ = _
    simp only [Act.put, List.setIfInBounds_toArray, List.set_cons_zero, List.set_cons_succ, i64_w, i32_w]
    rfl
  refine pure_ (i := 7) (N := some 11) (v := ?_) (a' := ?_) #[true, true, true, true, true, true, true, true, false, false, false, false, false, false] rfl rfl (by kernel_rfl) (fun _ _ _ h => h) (Or.inl ⟨by rfl, ?_⟩) ?_ ?_
  rotate_left
  · intro w'
    go_simp
    with_reducible rfl
  rotate_left
  · simp only [Act.put, List.setIfInBounds_toArray, List.set_cons_zero, List.set_cons_succ, i64_w, i32_w]
    rfl
  refine pure_ (i := 8) (N := some 19) (v := ?_) (a' := ?_) #[true, true, true, true, true, true, true, true, true, false, false, false, false, false] rfl rfl (by kernel_rfl) (fun _ _ _ h => h) (Or.inl ⟨by rfl, ?_⟩) ?_ ?_
  rotate_left
  · intro w'
    go_simp
    with_reducible rfl
  rotate_left
  · simp only [Act.put, List.setIfInBounds_toArray, List.set_cons_zero, List.set_cons_succ, i64_w, i32_w]
    rfl
  refine pure_ (i := 9) (N := some 20) (v := ?_) (a' := ?_) #[true, true, true, true, true, true, true, true, true, true, false, false, false, false] rfl rfl (by kernel_rfl) (fun _ _ _ h => h) (Or.inl ⟨by rfl, ?_⟩) ?_ ?_
  rotate_left
  · intro w'
    go_simp
    with_reducible rfl
  rotate_left
  · simp only [Act.put, List.setIfInBounds_toArray, List.set_cons_zero, List.set_cons_succ, i64_w, i32_w]
    rfl
  refine pure_ (i := 10) (N := some 21) (v := ?_) (a' := ?_) #[true, true, true, true, true, true, true, true, true, true, true, false, false, false] rfl rfl (by kernel_rfl) (fun _ _ _ h => h) (Or.inl ⟨by rfl, ?_⟩) ?_ ?_
  rotate_left
  · intro w'
    go_simp
    with_reducible rfl
  rotate_left
  · simp only [Act.put, List.setIfInBounds_toArray, List.set_cons_zero, List.set_cons_succ, i64_w, i32_w]
    rfl
  refine pure_ (i := 11) (N := some 5) (v := ?_) (a' := ?_) #[true, true, true, true, true, true, true, true, true, true, true, true, false, false] rfl rfl (by kernel_rfl) (fun _ _ _ h => h) (Or.inl ⟨by rfl, ?_⟩) ?_ ?_
  rotate_left
  · intro w'
    go_simp
    with_reducible rfl
  rotate_left
  · simp only [Act.put, List.setIfInBounds_toArray, List.set_cons_zero, List.set_cons_succ, i64_w, i32_w]
    rfl
  refine pure_ (i := 12) (N := some 6) (v := ?_) (a' := ?_) #[true, true, true, true, true, true, true, true, true, true, true, true, true, false] rfl rfl (by kernel_rfl) (fun _ _ _ h => h) (Or.inl ⟨by rfl, ?_⟩) ?_ ?_
  rotate_left
  · intro w'
    go_simp
    with_reducible rfl
  rotate_left
  · simp only [Act.put, List.setIfInBounds_toArray, List.set_cons_zero, List.set_cons_succ, i64_w, i32_w]
    rfl
  refine pure_ (i := 13) (N := some 7) (v := ?_) (a' := ?_) #[true, true, true, true, true, true, true, true, true, true, true, true, true, true] rfl rfl (by kernel_rfl) (fun _ _ _ h => h) (Or.inl ⟨by rfl, ?_⟩) ?_ ?_
  rotate_left
  · intro w'
    go_simp
    with_reducible rfl
  rotate_left
  · simp only [Act.put, List.setIfInBounds_toArray, List.set_cons_zero, List.set_cons_succ, i64_w, i32_w]
    rfl
  refine done_ (by kernel_rfl) ?_

  go_wp2_with (first
    | ((with_reducible refine (HT2.out A2 _ HCr.out Qr.out).mono ?_); rintro e w4 ⟨A3, rfl, a1_, a2_, a3_, a4_, hb_⟩; have HCh := Aside0.mk (a1_ _ (Kd.C_below HCr.out hb_)); have HCs := Aside0.mk (a3_ _ (Kd.C_below HCr.out hb_)); have FS := Aside0.mk a3_; have Qh := Aside0.mk a2_; have Qs := Aside0.mk a4_; have HB4 := Aside0.mk (below_step HB3.out hb_); have BX4 := Aside0.mk (impl_readChange.box_below BX3.out hb_); have HCk4 := Aside0.mk (Kd.C_below HCk.out hb_); clear a1_ a2_ a3_ a4_ hb_; generalize hq1 : List.take 2 r1 = hd at *; generalize hq2 : List.drop 2 r1 = r2 at *; have HQ1 := Aside0.mk hq1; have HQ2 := Aside0.mk hq2; clear hq1 hq2)
    | ((with_reducible refine (HBG.out A2 _ HCh.out Qh.out).mono ?_); rintro e w5 ⟨rfl, hd_⟩; have hb_ := hd_.below; have HB5 := Aside0.mk (below_step HB4.out hb_); have BX5 := Aside0.mk (impl_readChange.box_below BX4.out hb_); have HCk5 := Aside0.mk (Kd.C_below HCk4.out hb_); have HCs5 := Aside0.mk (Kd.C_below HCs.out hb_); clear hd_ hb_)
    | ((with_reducible refine (HT3.out A3 _ HCs5.out Qs.out).mono ?_); rintro e w6 ⟨A4, rfl, a1_, a2_, a3_, a4_, hb_⟩; have HCv := Aside0.mk (a1_ _ (Kd.C_below HCs5.out hb_)); have FT := Aside0.mk a3_; have Qt := Aside0.mk a4_; have HB6 := Aside0.mk (below_step HB5.out hb_); have BX6 := Aside0.mk (impl_readChange.box_below BX5.out hb_); have HCk6 := Aside0.mk (Kd.C_below HCk5.out hb_); clear a1_ a2_ a3_ a4_ hb_; generalize hq3 : List.take j r2 = vl at *; generalize hq4 : List.drop j r2 = r3 at *; have HQ3 := Aside0.mk hq3; have HQ4 := Aside0.mk hq4; clear hq3 hq4; have s1 := Kd.C_string (P := Try.prog) (c := c - 1) Try.underlying29 Try.underlying5 Try.underlying9 HCk6.out; have s2 := Kd.C_string (P := Try.prog) (c := c - 1 - k - 2) Try.underlying29 Try.underlying5 Try.underlying9 HCv.out; (have y0 : w6.cell? ⟨gb, 0, none⟩ = some (.string (⟨#[]⟩ : ByteArray)) := (blk_cell BX6.out 0).trans rfl); (have y1 : w6.cell? ⟨gb, 1, none⟩ = some (.string (⟨#[]⟩ : ByteArray)) := (blk_cell BX6.out 1).trans rfl); (have y2 : w6.cell? ⟨gb, 2, none⟩ = some (.bool false) := (blk_cell BX6.out 2).trans rfl); (have z0 : w6.frozen? ⟨gb, 0, none⟩ = false := blk_frozen BX6.out 0); (have z1 : w6.frozen? ⟨gb, 1, none⟩ = false := blk_frozen BX6.out 1); (have z2 : w6.frozen? ⟨gb, 2, none⟩ = false := blk_frozen BX6.out 2)))
  refine bodyPost_ret (results_list (rs := [.cell 2 95, .tmp 3, .tmp 4]) rfl (by simp) (.cell gb 95 #[.string (strOfNums key), .string (strOfNums vl), .bool false] (0, 0) _ rfl (by refine blk_put (cs := #[.string (strOfNums key), .string (strOfNums vl), .bool false]) ?_ 2 _ rfl; refine blk_put (cs := #[.string (strOfNums key), .string (⟨#[]⟩ : ByteArray), .bool false]) ?_ 1 _ rfl; refine blk_put (cs := #[.string (⟨#[]⟩ : ByteArray), .string (⟨#[]⟩ : ByteArray), .bool false]) ?_ 0 _ rfl; exact BX6.out) Try.underlying95 rfl (by kernel_rfl) (.tmp (.tmp .nil)))) rfl ?_
  rw [HKEY.out, HR1.out, HQ2.out, HQ3.out, HQ4.out]
  exact ⟨_, _, rfl, fun W hW => FT.out _ (FS.out _ (FR.out _ (F1.out _ hW))), Qt.out, (below_set (below_set (below_set HB6.out GE.out) GE.out) GE.out)⟩
theorem impl_readChange.head2 (m : List Int) (h : 2 ≤ m.length) : m.take 2 = [m.getD 0 0, m.getD 1 0] := by
  match m, h with
  | a :: b :: r, _ => rfl
theorem impl_readChange.shorter {l : List Int} {s : S95} {r : List Int} (h : impl_readChange.go l = some (s, r)) (h0 : 0 < l.length) : r.length < l.length := by
  simp only [impl_readChange.go] at h
  split at h
  · cases h
  · injection h with h
    injection h with _ h
    subst h
    simp only [List.length_drop]
    omega
theorem impl_readChange.range {l : List Int} {s : S95} {r : List Int} (h : impl_readChange.go l = some (s, r)) (hb : ∀ x ∈ l, 0 ≤ x ∧ x < 256) : ∀ x ∈ r, 0 ≤ x ∧ x < 256 := by
  simp only [impl_readChange.go] at h
  split at h
  · cases h
  · injection h with h
    injection h with _ h
    subst h
    intro x hx
    exact hb x (List.mem_of_mem_drop (List.mem_of_mem_drop (List.mem_of_mem_drop (List.mem_of_mem_drop hx))))
theorem impl_readChange.all (A : Option Addr) (c : Nat) (l : List Int) (w : World) (hC : Kd.C (Kd.int .u8) w A l.length l) (hc : l.length ≤ c) (h0 : 0 < l.length) (hb : ∀ x ∈ l, 0 ≤ x ∧ x < 256) :
    (impl_readChange.go l = none → Calls Try.prog 86 #[.slice A l.length c] w fun e w' => (∃ s0 s1 b, e = .returned (.tuple #[.agg #[.string s0, .string s1, .bool b], .slice none 0 0, .bool false])) ∧ Below w.heap.size w w') ∧
    (∀ s r, impl_readChange.go l = some (s, r) → Calls Try.prog 86 #[.slice A l.length c] w fun e w' => ∃ A' c', e = .returned (.tuple #[.agg #[.string s.f0, .string s.f1, .bool s.f2], .slice A' r.length c', .bool true]) ∧ (∀ W, Kd.C (Kd.int .u8) W A l.length l → Kd.C (Kd.int .u8) W A' r.length r) ∧ r.length ≤ c' ∧ Below w.heap.size w w') := by
  have hge : ∀ (m : List Int) (i : Nat), (∀ x ∈ m, 0 ≤ x ∧ x < 256) → 0 ≤ m.getD i 0 ∧ m.getD i 0 < 256 := fun m i hm => by
    by_cases hi : i < m.length
    · exact hm _ (by rw [List.getD_eq_getElem?_getD, List.getElem?_eq_getElem hi]; exact List.getElem_mem hi)
    · rw [List.getD_eq_getElem?_getD, List.getElem?_eq_none (by omega)]; exact ⟨by decide, by decide⟩
  have hk := hge l 0 hb
  obtain ⟨k, hkk⟩ : ∃ k : Nat, l.getD 0 0 = (k : Int) := ⟨(l.getD 0 0).toNat, by omega⟩
  have hk2 : k < 256 := by omega
  have hb1 : ∀ x ∈ (l.drop 1).drop k, 0 ≤ x ∧ x < 256 := fun x hx => hb x (List.mem_of_mem_drop (List.mem_of_mem_drop hx))
  have g0 := hge _ 0 hb1
  have g1 := hge _ 1 hb1
  have hgo : impl_readChange.go l = if (l.drop 1).length < k ∨ ((l.drop 1).drop k).length < 2 ∨ (((l.drop 1).drop k).drop 2).length < (((l.drop 1).drop k).getD 0 0 * 256 + ((l.drop 1).drop k).getD 1 0).toNat - 1 then none else some (⟨strOfNums ((l.drop 1).take k), strOfNums ((((l.drop 1).drop k).drop 2).take ((((l.drop 1).drop k).getD 0 0 * 256 + ((l.drop 1).drop k).getD 1 0).toNat - 1)), (((l.drop 1).drop k).getD 0 0 * 256 + ((l.drop 1).drop k).getD 1 0).toNat == 0⟩, (((l.drop 1).drop k).drop 2).drop ((((l.drop 1).drop k).getD 0 0 * 256 + ((l.drop 1).drop k).getD 1 0).toNat - 1)) := by
    unfold impl_readChange.go; rw [hkk]; rfl
  by_cases hA : (l.drop 1).length < k
  · rw [hgo, if_pos (.inl hA)]
    exact ⟨fun _ => (impl_readChange.cA A c l k w hC hc h0 hkk hk2 hA).mono fun _ _ h => ⟨⟨_, _, _, h.1⟩, h.2⟩, (fun _ _ h => by cases h)⟩
  · by_cases hB : ((l.drop 1).drop k).length < 2
    · rw [hgo, if_pos (.inr (.inl hB))]
      exact ⟨fun _ => (impl_readChange.cB A c l k w hC hc h0 hkk hk2 (by omega) hB).mono fun _ _ h => ⟨⟨_, _, _, h.1⟩, h.2⟩, (fun _ _ h => by cases h)⟩
    · have hbig := impl_readChange.big2 _ _ g0.1 g0.2 g1.1 g1.2
      rw [← impl_readChange.head2 _ (by omega)] at hbig
      obtain ⟨n, hn⟩ : ∃ n : Nat, ((l.drop 1).drop k).getD 0 0 * 256 + ((l.drop 1).drop k).getD 1 0 = (n : Int) := ⟨(((l.drop 1).drop k).getD 0 0 * 256 + ((l.drop 1).drop k).getD 1 0).toNat, by omega⟩
      rw [hn] at hgo hbig
      rw [Int.toNat_natCast] at hgo
      cases n with
      | zero =>
        rw [hgo, if_neg (by omega)]
        refine ⟨(fun h => by cases h), fun s r h => ?_⟩
        injection h with h
        injection h with h1 h2
        subst h1 h2
        exact impl_readChange.cZ A c l k w hC hc h0 hkk hk2 (by omega) (by omega) hbig
      | succ j =>
        have hbig2 : impl_bigOf.f 3 (((l.drop 1).drop k).take 2) = some ((j : Int) + 1) := by rw [hbig]; rfl
        rw [Nat.add_sub_cancel] at hgo
        by_cases hC3 : (((l.drop 1).drop k).drop 2).length < j
        · rw [hgo, if_pos (.inr (.inr hC3))]
          exact ⟨fun _ => impl_readChange.cC A c l k w hC hc h0 hkk hk2 (by omega) (by omega) j (by omega) hbig2 hC3, (fun _ _ h => by cases h)⟩
        · rw [hgo, if_neg (by omega)]
          refine ⟨(fun h => by cases h), fun s r h => ?_⟩
          injection h with h
          injection h with h1 h2
          subst h1 h2
          exact impl_readChange.cD A c l k w hC hc h0 hkk hk2 (by omega) (by omega) j (by omega) hbig2 (by omega)


end Go.Proofs.Ytjckchadcpaijaa.XB
