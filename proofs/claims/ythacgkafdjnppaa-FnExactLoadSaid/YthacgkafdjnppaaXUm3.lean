-- Walks of the functions that the law reaches. Joined by a program of this session. Lean checks it.
import Derived.Test.YthacgkafdjnppaaXUm0
import Derived.Test.YthacgkafdjnppaaXUm2
import Derived.Test.YthacgkafdjnppaaXUm1
namespace Go.Proofs.Ythacgkafdjnppaa.XU
open Go.Proofs.Ythacgkafdjnppaa.OpenS Go.Proofs.Ythacgkafdjnppaa.Open Go.Proofs.Ythacgkafdjnppaa.OpenWin Go.Proofs.Ythacgkafdjnppaa.OpenCopy Go.Proofs.Ythacgkafdjnppaa.OpenStr Go.Proofs.Ythacgkafdjnppaa.OpenRow Go.Proofs.Ythacgkafdjnppaa.OpenFlat Go.Proofs.Ythacgkafdjnppaa.OpenOrd
open Go.RowKit Go.Proofs.YthacgkafdjnppaaW.PrintWords Go.Proofs.YthacgkafdjnppaaW.PrintLast Go.Proofs.YthacgkafdjnppaaW.PrintMore
attribute [local go_sem] max2_int min2_int max_two min_two max_three min_three max_four min_four   -- for this text's walks alone
set_option linter.unusedVariables false
set_option linter.unusedSimpArgs false
def impl_readChange.go (l : List Int) : Option (S79 × List Int) :=
  let k := (l.getD 0 0).toNat
  let r1 := (l.drop 1).drop k
  let n := (r1.getD 0 0 * 256 + r1.getD 1 0).toNat
  let r2 := r1.drop 2
  if (l.drop 1).length < k ∨ r1.length < 2 ∨ r2.length < n - 1 then none else some (⟨strOfNums ((l.drop 1).take k), strOfNums (r2.take (n - 1)), n == 0⟩, r2.drop (n - 1))
theorem impl_readChange.box_below {w w1 : World} {g t : Nat} {cs : Array Value} (hb : w.heap[g]? = some (.cells cs t (0, 0))) (h : Below w.heap.size w w1) : w1.heap[g]? = some (.cells cs t (0, 0)) := by
  rw [h.block g (blk_lt hb)]; exact hb
theorem impl_readChange.or8 (n b : Nat) (hn : n < 281474976710656) (hb : b < 256) : Go.bits .or .i64 ((n : Int) * 256) (b : Int) = (n : Int) * 256 + b := by
  have e : ((n : Int) * 256) = ((n * 256 : Nat) : Int) := by omega
  have h2 : n * 256 ||| b = n * 256 + b := by
    have := Nat.shiftLeft_add_eq_or_of_lt (i := 8) (b := b) (by simpa using hb) n
    rw [Nat.shiftLeft_eq] at this
    rw [show n * 256 = n * 2 ^ 8 from rfl, ← this]
  show IntKind.i64.wrap ((BitVec.ofInt 64 ((n : Int) * 256) ||| BitVec.ofInt 64 (b : Int)).toNat : Int) = _
  rw [e, BitVec.toNat_or, ofInt_u64 (n * 256) (by omega), ofInt_u64 b (by omega), h2]
  simp [IntKind.wrap, IntKind.bits, IntKind.signed]
  omega
theorem impl_readChange.big2 (a b : Int) (ha : 0 ≤ a) (ha2 : a < 256) (hb : 0 ≤ b) (hb2 : b < 256) : impl_bigOf.f 3 [a, b] = some (a * 256 + b) := by
  obtain ⟨x, rfl⟩ := Int.eq_ofNat_of_zero_le ha
  obtain ⟨y, rfl⟩ := Int.eq_ofNat_of_zero_le hb
  have w1 : wrap64 (0 * 256) = ((0 : Nat) : Int) * 256 := by unfold wrap64; rfl
  have w2 : wrap64 (x : Int) = x := by unfold wrap64; omega
  have w3 : wrap64 (0 + 1) = 1 := by unfold wrap64; rfl
  have w4 : wrap64 ((x : Int) * 256) = (x : Int) * 256 := by unfold wrap64; omega
  have w5 : wrap64 (y : Int) = y := by unfold wrap64; omega
  have w6 : wrap64 (1 + 1) = 2 := by unfold wrap64; rfl
  have e0 : ((0 : Nat) : Int) * 256 + (x : Int) = x := by omega
  unfold impl_bigOf.f
  show impl_bigOf.l0 3 0 [(x : Int), (y : Int)] 2 0 = _
  rw [impl_bigOf.l0, if_pos (by decide), if_pos (by decide), if_pos (by show (0 : Int) < 2; decide), w1, show rd [(x : Int), (y : Int)] 0 = x from rfl, w2, impl_readChange.or8 0 x (by decide) (by omega), e0, w3]
  rw [impl_bigOf.l0, if_pos (by decide), if_pos (by decide), if_pos (by show (1 : Int) < 2; decide), w4, show rd [(x : Int), (y : Int)] 1 = y from rfl, w5, impl_readChange.or8 x y (by omega) (by omega), w6]
  rw [impl_bigOf.l0, if_neg (by decide)]
set_option maxHeartbeats 8000000 in
set_option maxRecDepth 100000 in
theorem impl_readChange.cA (A : Option Addr) (c : Nat) (l : List Int) (k : Nat) (w : World) (hC : Kd.C (Kd.int .u8) w A l.length l) (hc : l.length ≤ c) (h0 : 0 < l.length) (hk : l.getD 0 0 = (k : Int)) (hk2 : k < 256) (hA : (l.drop 1).length < k) :
    Calls Try.prog 53 #[.slice A l.length c] w fun e w' => e = .returned (.tuple #[.agg #[.string (⟨#[]⟩ : ByteArray), .string (⟨#[]⟩ : ByteArray), .bool false], .slice none 0 0, .bool false]) ∧ Below w.heap.size w w' := by
  have hu := Try.underlying79
  have hl : l.length ≤ 9223372036854775807 := hC.2.1
  obtain ⟨i0, hi0, _, hsz, _⟩ := info_parts info5
  obtain ⟨A1, k1, r1, q1⟩ := print_cut_int (P := Try.prog) (k := .u8) 22 5 Try.underlying22 hi0 hsz A c l 1 (by omega) (by omega) hc
  have hR : ReadsInt w .u8 A l.length l := Kd.reads_of_C (enc := Value.int .u8) (d := (0 : Int)) (h1 := fun _ => rfl) hC
  obtain ⟨ad, rfl, hx⟩ := hR.at_ 0 (by omega) (by omega)
  have F1 := Aside0.mk (show ∀ W, Kd.C (Kd.int .u8) W (some ad) l.length l → Kd.C (Kd.int .u8) W A1 (l.drop 1).length (l.drop 1) from fun W hW => Kd.C_of_reads (h1 := fun _ => rfl) (r1 W (Kd.reads_of_C (enc := Value.int .u8) (d := (0 : Int)) (h1 := fun _ => rfl) hW)))
  have HC0 := Aside0.mk hC
  have Q1 := Aside0.mk (show (l.drop 1).length ≤ c - 1 from q1)
  rw [show (1 : Int).toNat = 1 from rfl] at k1
  rw [show rd l 0 = l.getD 0 0 from rfl, show (0 : Int).toNat = 0 from rfl, hk, show ad.add 0 = ad by unfold Addr.add; simp] at hx
  have h0z : (0 : Int) < (l.length : Int) := by omega
  have hkz : (k : Int) < 256 := by omega
  have hwk : IntKind.i64.wrap (k : Int) = k := by rw [IntKind.wrap_i64]; omega
  have hml : (l.drop 1).length ≤ 9223372036854775807 := by rw [List.length_drop]; omega
  generalize hm : l.drop 1 = m at *
  have HM := Aside0.mk hm
  clear hm
  have HT1 := Aside0.mk (fun W => impl_taken.no A1 (c - 1) m k W hml hA)
  clear hR r1 q1 hi0 hsz hC hk hc
  go_enter Try.func53, Try.ntmps53
  go_wp2_with ((with_reducible refine gate_dst (N := 2) rfl ?_); refine box_event ?hg (N := 2) ?hd (cs := #[.string (⟨#[]⟩ : ByteArray), .string (⟨#[]⟩ : ByteArray), .bool false]) (t := 79) ?hr ?_; (case hd => rfl); (case hg => rfl); (case hr => first | (go_simp; done) | (go_simp; rfl)); intro gb hg w2 hbox hb; have GE := Aside0.mk (show w.heap.size ≤ gb by rw [hg]; exact Nat.le_refl _); have HB := Aside0.mk hb; have BX := Aside0.mk hbox; clear hbox hg hb)
  have hx2 : w2.cell? ad = some (.int .u8 (k : Int)) := (HB.out.cell (World.block_lt_of_cell? _ _ hx)).trans hx
  clear hx
  refine start_ (n := 14) (S := fun w' => w'.cell? ad = some (.int .u8 (k : Int))) (ds := [6]) #[false, false, false, false, false, false, false, false, false, false, false, false, false, false] (by kernel_rfl) rfl rfl (hx2) (fun hHeld => ?_)
  refine pure_ (i := 0) (N := some 12) (v := ?_) (a' := ?_) #[true, false, false, false, false, false, false, false, false, false, false, false, false, false] rfl rfl (by kernel_rfl) (fun _ _ _ h => h) (Or.inl ⟨by rfl, ?_⟩) ?_ ?_
  rotate_left
  · intro w'
    go_simp
    with_reducible rfl
  rotate_left
  · simp only [Act.put, List.setIfInBounds_toArray, List.set_cons_zero, List.set_cons_succ, i64_w, i32_w]
    rfl
  refine pure_ (i := 1) (N := some 13) (v := ?_) (a' := ?_) #[true, true, false, false, false, false, false, false, false, false, false, false, false, false] rfl rfl (by kernel_rfl) (fun _ _ _ h => h) (Or.inl ⟨by rfl, ?_⟩) ?_ ?_
  rotate_left
  · intro w'
    go_simp
    with_reducible rfl
  rotate_left
  · simp only [Act.put, List.setIfInBounds_toArray, List.set_cons_zero, List.set_cons_succ, i64_w, i32_w]
    rfl
  refine pure_ (i := 2) (N := some 14) (v := ?_) (a' := ?_) #[true, true, true, false, false, false, false, false, false, false, false, false, false, false] rfl rfl (by kernel_rfl) (fun _ _ _ h => h) (Or.inl ⟨by rfl, ?_⟩) ?_ ?_
  rotate_left
  · intro w'
    go_simp
    with_reducible rfl
  rotate_left
  · simp only [Act.put, List.setIfInBounds_toArray, List.set_cons_zero, List.set_cons_succ, i64_w, i32_w]
    rfl
  refine pure_ (i := 3) (N := some 15) (v := ?_) (a' := ?_) #[true, true, true, true, false, false, false, false, false, false, false, false, false, false] rfl rfl (by kernel_rfl) (fun _ _ _ h => h) (Or.inl ⟨by rfl, ?_⟩) ?_ ?_
  rotate_left
  · intro w'
    go_simp
    with_reducible rfl
  rotate_left
  · simp only [Act.put, List.setIfInBounds_toArray, List.set_cons_zero, List.set_cons_succ, i64_w, i32_w]
    rfl
  refine take_ (i := 4) (N := some 16) (v := ?_) (a' := ?_) #[true, true, true, true, true, false, false, false, false, false, false, false, false, false] rfl rfl (by kernel_rfl) (fun _ _ _ h => h) (Or.inl ⟨by rfl, ?_⟩) hHeld ?_ ?_
  rotate_left
  · intro w' s0
    go_simp
    with_reducible rfl
  rotate_left
  · simp only [Act.put, List.setIfInBounds_toArray, List.set_cons_zero, List.set_cons_succ, i64_w, i32_w]
    rfl
  refine pure_ (i := 5) (N := some 17) (v := ?_) (a' := ?_) #[true, true, true, true, true, true, false, false, false, false, false, false, false, false] rfl rfl (by kernel_rfl) (fun _ _ _ h => h) (Or.inl ⟨by rfl, ?_⟩) ?_ ?_
  rotate_left
  · intro w'
    go_simp
    with_reducible rfl
  rotate_left
  · simp only [Act.put, List.setIfInBounds_toArray, List.set_cons_zero, List.set_cons_succ, i64_w, i32_w]
    rfl
  refine last_ (i := 6) (N := some 18) #[true, true, true, true, true, true, true, false, false, false, false, false, false, false] rfl rfl (by kernel_rfl) (by decide) (fun K hK => ?_)
  refine goes_ Try.func64 (by kernel_rfl) rfl #[.slice A1 m.length (c - 1), .int .i64 (k : Int)] (by rfl) rfl rfl (by simp only [List.map_toArray, List.map_cons, List.map_nil] <;> rfl) ?_
  with_reducible refine (HT1.out _).mono ?_
  rintro e w3 ⟨rfl, rfl⟩
  refine ⟨_, rfl, ?_⟩
  refine hK.out _ _ ?_
  clear hK K
  refine norm_ (a' := ?_) ?_ ?_
  rotate_left
  · show Act.put _ (some 18) _ = _
    simp only [Act.put, List.setIfInBounds_toArray, List.set_cons_zero, List.set_cons_succ, i64_w, i32_w]
    rfl
  refine pure_ (i := 7) (N := some 11) (v := ?_) (a' := ?_) #[true, true, true, true, true, true, true, true, false, false, false, false, false, false] rfl rfl (by kernel_rfl) (fun _ _ _ h => h) (Or.inl ⟨by rfl, ?_⟩) ?_ ?_
  rotate_left
  · intro w'
    go_simp
    with_reducible rfl
  rotate_left
  · simp only [Act.put, List.setIfInBounds_toArray, List.set_cons_zero, List.set_cons_succ, i64_w, i32_w]
    rfl
  refine pure_ (i := 8) (N := some 19) (v := ?_) (a' := ?_) #[true, true, true, true, true, true, true, true, true, false, false, false, false, false] rfl rfl (by kernel_rfl) (fun _ _ _ h => h) (Or.inl ⟨by rfl, ?_⟩) ?_ ?_
  rotate_left
  · intro w'
    go_simp
    with_reducible rfl
  rotate_left
  · simp only [Act.put, List.setIfInBounds_toArray, List.set_cons_zero, List.set_cons_succ, i64_w, i32_w]
    rfl
  refine pure_ (i := 9) (N := some 20) (v := ?_) (a' := ?_) #[true, true, true, true, true, true, true, true, true, true, false, false, false, false] rfl rfl (by kernel_rfl) (fun _ _ _ h => h) (Or.inl ⟨by rfl, ?_⟩) ?_ ?_
  rotate_left
  · intro w'
    go_simp
    with_reducible rfl
  rotate_left
  · simp only [Act.put, List.setIfInBounds_toArray, List.set_cons_zero, List.set_cons_succ, i64_w, i32_w]
    rfl
  refine pure_ (i := 10) (N := some 21) (v := ?_) (a' := ?_) #[true, true, true, true, true, true, true, true, true, true, true, false, false, false] rfl rfl (by kernel_rfl) (fun _ _ _ h => h) (Or.inl ⟨by rfl, ?_⟩) ?_ ?_
  rotate_left
  · intro w'
    go_simp
    with_reducible rfl
  rotate_left
  · simp only [Act.put, List.setIfInBounds_toArray, List.set_cons_zero, List.set_cons_succ, i64_w, i32_w]
    rfl
  refine pure_ (i := 11) (N := some 5) (v := ?_) (a' := ?_) #[true, true, true, true, true, true, true, true, true, true, true, true, false, false] rfl rfl (by kernel_rfl) (fun _ _ _ h => h) (Or.inl ⟨by rfl, ?_⟩) ?_ ?_
  rotate_left
  · intro w'
    go_simp
    with_reducible rfl
  rotate_left
  · simp only [Act.put, List.setIfInBounds_toArray, List.set_cons_zero, List.set_cons_succ, i64_w, i32_w]
    rfl
  refine pure_ (i := 12) (N := some 6) (v := ?_) (a' := ?_) #[true, true, true, true, true, true, true, true, true, true, true, true, true, false] rfl rfl (by kernel_rfl) (fun _ _ _ h => h) (Or.inl ⟨by rfl, ?_⟩) ?_ ?_
  rotate_left
  · intro w'
    go_simp
    with_reducible rfl
  rotate_left
  · simp only [Act.put, List.setIfInBounds_toArray, List.set_cons_zero, List.set_cons_succ, i64_w, i32_w]
    rfl
  refine pure_ (i := 13) (N := some 7) (v := ?_) (a' := ?_) #[true, true, true, true, true, true, true, true, true, true, true, true, true, true] rfl rfl (by kernel_rfl) (fun _ _ _ h => h) (Or.inl ⟨by rfl, ?_⟩) ?_ ?_
  rotate_left
  · intro w'
    go_simp
    with_reducible rfl
  rotate_left
  · simp only [Act.put, List.setIfInBounds_toArray, List.set_cons_zero, List.set_cons_succ, i64_w, i32_w]
    rfl
  refine done_ (by kernel_rfl) ?_
  have y0 : w2.cell? ⟨gb, 0, none⟩ = some (.string (⟨#[]⟩ : ByteArray)) := (blk_cell BX.out 0).trans rfl
  have y1 : w2.cell? ⟨gb, 1, none⟩ = some (.string (⟨#[]⟩ : ByteArray)) := (blk_cell BX.out 1).trans rfl
  have y2 : w2.cell? ⟨gb, 2, none⟩ = some (.bool false) := (blk_cell BX.out 2).trans rfl
  have z0 : w2.frozen? ⟨gb, 0, none⟩ = false := blk_frozen BX.out 0
  have z1 : w2.frozen? ⟨gb, 1, none⟩ = false := blk_frozen BX.out 1
  have z2 : w2.frozen? ⟨gb, 2, none⟩ = false := blk_frozen BX.out 2
  go_wp2
  refine bodyPost_ret (results_list (rs := [.cell 2 79, .tmp 3, .tmp 4]) rfl (by simp) (.cell gb 79 #[.string (⟨#[]⟩ : ByteArray), .string (⟨#[]⟩ : ByteArray), .bool false] (0, 0) _ rfl (by refine blk_put (cs := #[.string (⟨#[]⟩ : ByteArray), .string (⟨#[]⟩ : ByteArray), .bool false]) ?_ 2 _ rfl; refine blk_put (cs := #[.string (⟨#[]⟩ : ByteArray), .string (⟨#[]⟩ : ByteArray), .bool false]) ?_ 1 _ rfl; refine blk_put (cs := #[.string (⟨#[]⟩ : ByteArray), .string (⟨#[]⟩ : ByteArray), .bool false]) ?_ 0 _ rfl; exact BX.out) Try.underlying79 rfl (by kernel_rfl) (.tmp (.tmp .nil)))) rfl ?_
  exact ⟨rfl, below_drew1 (below_set (below_set (below_set HB.out GE.out) GE.out) GE.out)⟩
set_option maxHeartbeats 8000000 in
set_option maxRecDepth 100000 in
theorem impl_readChange.cB (A : Option Addr) (c : Nat) (l : List Int) (k : Nat) (w : World) (hC : Kd.C (Kd.int .u8) w A l.length l) (hc : l.length ≤ c) (h0 : 0 < l.length) (hk : l.getD 0 0 = (k : Int)) (hk2 : k < 256) (hA : k ≤ (l.drop 1).length) (hB : ((l.drop 1).drop k).length < 2) :
    Calls Try.prog 53 #[.slice A l.length c] w fun e w' => e = .returned (.tuple #[.agg #[.string (⟨#[]⟩ : ByteArray), .string (⟨#[]⟩ : ByteArray), .bool false], .slice none 0 0, .bool false]) ∧ Below w.heap.size w w' := by
  have hu := Try.underlying79
  have hl : l.length ≤ 9223372036854775807 := hC.2.1
  obtain ⟨i0, hi0, _, hsz, _⟩ := info_parts info5
  obtain ⟨A1, k1, r1, q1⟩ := print_cut_int (P := Try.prog) (k := .u8) 22 5 Try.underlying22 hi0 hsz A c l 1 (by omega) (by omega) hc
  have hR : ReadsInt w .u8 A l.length l := Kd.reads_of_C (enc := Value.int .u8) (d := (0 : Int)) (h1 := fun _ => rfl) hC
  obtain ⟨ad, rfl, hx⟩ := hR.at_ 0 (by omega) (by omega)
  have F1 := Aside0.mk (show ∀ W, Kd.C (Kd.int .u8) W (some ad) l.length l → Kd.C (Kd.int .u8) W A1 (l.drop 1).length (l.drop 1) from fun W hW => Kd.C_of_reads (h1 := fun _ => rfl) (r1 W (Kd.reads_of_C (enc := Value.int .u8) (d := (0 : Int)) (h1 := fun _ => rfl) hW)))
  have HC0 := Aside0.mk hC
  have Q1 := Aside0.mk (show (l.drop 1).length ≤ c - 1 from q1)
  rw [show (1 : Int).toNat = 1 from rfl] at k1
  rw [show rd l 0 = l.getD 0 0 from rfl, show (0 : Int).toNat = 0 from rfl, hk, show ad.add 0 = ad by unfold Addr.add; simp] at hx
  have h0z : (0 : Int) < (l.length : Int) := by omega
  have hkz : (k : Int) < 256 := by omega
  have hwk : IntKind.i64.wrap (k : Int) = k := by rw [IntKind.wrap_i64]; omega
  have hml : (l.drop 1).length ≤ 9223372036854775807 := by rw [List.length_drop]; omega
  generalize hm : l.drop 1 = m at *
  have HM := Aside0.mk hm
  clear hm
  have HT1 := Aside0.mk (fun W hW => impl_taken.yes A1 (c - 1) m k W hW Q1.out hA)
  have HT2 := Aside0.mk (show ∀ (A2 : Option Addr) (W : World), Calls Try.prog 64 #[.slice A2 (m.drop k).length (c - 1 - k), .int .i64 2] W fun e w' => e = .returned (.tuple #[.slice none 0 0, .slice none 0 0, .bool false]) ∧ W = w' from fun A2 W => impl_taken.no A2 (c - 1 - k) (m.drop k) 2 W (by rw [List.length_drop]; omega) hB)
  clear hR r1 q1 hi0 hsz hC hk hc
  go_enter Try.func53, Try.ntmps53
  go_wp2_with ((with_reducible refine gate_dst (N := 2) rfl ?_); refine box_event ?hg (N := 2) ?hd (cs := #[.string (⟨#[]⟩ : ByteArray), .string (⟨#[]⟩ : ByteArray), .bool false]) (t := 79) ?hr ?_; (case hd => rfl); (case hg => rfl); (case hr => first | (go_simp; done) | (go_simp; rfl)); intro gb hg w2 hbox hb; have GE := Aside0.mk (show w.heap.size ≤ gb by rw [hg]; exact Nat.le_refl _); have HB := Aside0.mk hb; have BX := Aside0.mk hbox; clear hbox hg hb)
  have hx2 : w2.cell? ad = some (.int .u8 (k : Int)) := (HB.out.cell (World.block_lt_of_cell? _ _ hx)).trans hx
  clear hx
  refine start_ (n := 14) (S := fun w' => w'.cell? ad = some (.int .u8 (k : Int))) (ds := [6]) #[false, false, false, false, false, false, false, false, false, false, false, false, false, false] (by kernel_rfl) rfl rfl (hx2) (fun hHeld => ?_)
  refine pure_ (i := 0) (N := some 12) (v := ?_) (a' := ?_) #[true, false, false, false, false, false, false, false, false, false, false, false, false, false] rfl rfl (by kernel_rfl) (fun _ _ _ h => h) (Or.inl ⟨by rfl, ?_⟩) ?_ ?_
  rotate_left
  · intro w'
    go_simp
    with_reducible rfl
  rotate_left
  · simp only [Act.put, List.setIfInBounds_toArray, List.set_cons_zero, List.set_cons_succ, i64_w, i32_w]
    rfl
  refine pure_ (i := 1) (N := some 13) (v := ?_) (a' := ?_) #[true, true, false, false, false, false, false, false, false, false, false, false, false, false] rfl rfl (by kernel_rfl) (fun _ _ _ h => h) (Or.inl ⟨by rfl, ?_⟩) ?_ ?_
  rotate_left
  · intro w'
    go_simp
    with_reducible rfl
  rotate_left
  · simp only [Act.put, List.setIfInBounds_toArray, List.set_cons_zero, List.set_cons_succ, i64_w, i32_w]
    rfl
  refine pure_ (i := 2) (N := some 14) (v := ?_) (a' := ?_) #[true, true, true, false, false, false, false, false, false, false, false, false, false, false] rfl rfl (by kernel_rfl) (fun _ _ _ h => h) (Or.inl ⟨by rfl, ?_⟩) ?_ ?_
  rotate_left
  · intro w'
    go_simp
    with_reducible rfl
  rotate_left
  · simp only [Act.put, List.setIfInBounds_toArray, List.set_cons_zero, List.set_cons_succ, i64_w, i32_w]
    rfl
  refine pure_ (i := 3) (N := some 15) (v := ?_) (a' := ?_) #[true, true, true, true, false, false, false, false, false, false, false, false, false, false] rfl rfl (by kernel_rfl) (fun _ _ _ h => h) (Or.inl ⟨by rfl, ?_⟩) ?_ ?_
  rotate_left
  · intro w'
    go_simp
    with_reducible rfl
  rotate_left
  · simp only [Act.put, List.setIfInBounds_toArray, List.set_cons_zero, List.set_cons_succ, i64_w, i32_w]
    rfl
  refine take_ (i := 4) (N := some 16) (v := ?_) (a' := ?_) #[true, true, true, true, true, false, false, false, false, false, false, false, false, false] rfl rfl (by kernel_rfl) (fun _ _ _ h => h) (Or.inl ⟨by rfl, ?_⟩) hHeld ?_ ?_
  rotate_left
  · intro w' s0
    go_simp
    with_reducible rfl
  rotate_left
  · simp only [Act.put, List.setIfInBounds_toArray, List.set_cons_zero, List.set_cons_succ, i64_w, i32_w]
    rfl
  refine pure_ (i := 5) (N := some 17) (v := ?_) (a' := ?_) #[true, true, true, true, true, true, false, false, false, false, false, false, false, false] rfl rfl (by kernel_rfl) (fun _ _ _ h => h) (Or.inl ⟨by rfl, ?_⟩) ?_ ?_
  rotate_left
  · intro w'
    go_simp
    with_reducible rfl
  rotate_left
  · simp only [Act.put, List.setIfInBounds_toArray, List.set_cons_zero, List.set_cons_succ, i64_w, i32_w]
    rfl
  refine last_ (i := 6) (N := some 18) #[true, true, true, true, true, true, true, false, false, false, false, false, false, false] rfl rfl (by kernel_rfl) (by decide) (fun K hK => ?_)
  refine goes_ Try.func64 (by kernel_rfl) rfl #[.slice A1 m.length (c - 1), .int .i64 (k : Int)] (by rfl) rfl rfl (by simp only [List.map_toArray, List.map_cons, List.map_nil] <;> rfl) ?_
  with_reducible refine (HT1.out _ (F1.out _ (Kd.C_below HC0.out (below_drew1 HB.out)))).mono ?_
  rintro e w3 ⟨A2, rfl, hC1_, hc1_, hC2_, hc2_, hb_⟩
  refine ⟨_, rfl, ?_⟩
  have HB3 := Aside0.mk (below_step (below_drew1 HB.out) hb_); have HCk := Aside0.mk (hC1_ _ (F1.out _ (Kd.C_below HC0.out HB3.out))); have HCr := Aside0.mk (hC2_ _ (F1.out _ (Kd.C_below HC0.out HB3.out))); have FR := Aside0.mk hC2_; have Qk := Aside0.mk hc1_; have Qr := Aside0.mk hc2_; have BX3 := Aside0.mk (box_below (show w2.drew.heap[gb]? = _ from BX.out) hb_); clear hC1_ hc1_ hC2_ hc2_ hb_
  generalize hkey : List.take k m = key at *
  generalize hr1 : List.drop k m = r1 at *
  have HKEY := Aside0.mk hkey; have HR1 := Aside0.mk hr1; clear hkey hr1
  refine hK.out _ _ ?_
  clear hK K
  refine norm_ (a' := ?_) ?_ ?_
  rotate_left
  · show Act.put _ (some 18) _ = _
    simp only [Act.put, List.setIfInBounds_toArray, List.set_cons_zero, List.set_cons_succ, i64_w, i32_w]
    rfl
  refine pure_ (i := 7) (N := some 11) (v := ?_) (a' := ?_) #[true, true, true, true, true, true, true, true, false, false, false, false, false, false] rfl rfl (by kernel_rfl) (fun _ _ _ h => h) (Or.inl ⟨by rfl, ?_⟩) ?_ ?_
  rotate_left
  · intro w'
    go_simp
    with_reducible rfl
  rotate_left
  · simp only [Act.put, List.setIfInBounds_toArray, List.set_cons_zero, List.set_cons_succ, i64_w, i32_w]
    rfl
  refine pure_ (i := 8) (N := some 19) (v := ?_) (a' := ?_) #[true, true, true, true, true, true, true, true, true, false, false, false, false, false] rfl rfl (by kernel_rfl) (fun _ _ _ h => h) (Or.inl ⟨by rfl, ?_⟩) ?_ ?_
  rotate_left
  · intro w'
    go_simp
    with_reducible rfl
  rotate_left
  · simp only [Act.put, List.setIfInBounds_toArray, List.set_cons_zero, List.set_cons_succ, i64_w, i32_w]
    rfl
  refine pure_ (i := 9) (N := some 20) (v := ?_) (a' := ?_) #[true, true, true, true, true, true, true, true, true, true, false, false, false, false] rfl rfl (by kernel_rfl) (fun _ _ _ h => h) (Or.inl ⟨by rfl, ?_⟩) ?_ ?_
  rotate_left
  · intro w'
    go_simp
    with_reducible rfl
  rotate_left
  · simp only [Act.put, List.setIfInBounds_toArray, List.set_cons_zero, List.set_cons_succ, i64_w, i32_w]
    rfl
  refine pure_ (i := 10) (N := some 21) (v := ?_) (a' := ?_) #[true, true, true, true, true, true, true, true, true, true, true, false, false, false] rfl rfl (by kernel_rfl) (fun _ _ _ h => h) (Or.inl ⟨by rfl, ?_⟩) ?_ ?_
  rotate_left
  · intro w'
    go_simp
    with_reducible rfl
  rotate_left
  · simp only [Act.put, List.setIfInBounds_toArray, List.set_cons_zero, List.set_cons_succ, i64_w, i32_w]
    rfl
  refine pure_ (i := 11) (N := some 5) (v := ?_) (a' := ?_) #[true, true, true, true, true, true, true, true, true, true, true, true, false, false] rfl rfl (by kernel_rfl) (fun _ _ _ h => h) (Or.inl ⟨by rfl, ?_⟩) ?_ ?_
  rotate_left
  · intro w'
    go_simp
    with_reducible rfl
  rotate_left
  · simp only [Act.put, List.setIfInBounds_toArray, List.set_cons_zero, List.set_cons_succ, i64_w, i32_w]
    rfl
  refine pure_ (i := 12) (N := some 6) (v := ?_) (a' := ?_) #[true, true, true, true, true, true, true, true, true, true, true, true, true, false] rfl rfl (by kernel_rfl) (fun _ _ _ h => h) (Or.inl ⟨by rfl, ?_⟩) ?_ ?_
  rotate_left
  · intro w'
    go_simp
    with_reducible rfl
  rotate_left
  · simp only [Act.put, List.setIfInBounds_toArray, List.set_cons_zero, List.set_cons_succ, i64_w, i32_w]
    rfl
  refine pure_ (i := 13) (N := some 7) (v := ?_) (a' := ?_) #[true, true, true, true, true, true, true, true, true, true, true, true, true, true] rfl rfl (by kernel_rfl) (fun _ _ _ h => h) (Or.inl ⟨by rfl, ?_⟩) ?_ ?_
  rotate_left
  · intro w'
    go_simp
    with_reducible rfl
  rotate_left
  · simp only [Act.put, List.setIfInBounds_toArray, List.set_cons_zero, List.set_cons_succ, i64_w, i32_w]
    rfl
  refine done_ (by kernel_rfl) ?_
  have y0 : w3.cell? ⟨gb, 0, none⟩ = some (.string (⟨#[]⟩ : ByteArray)) := (blk_cell BX3.out 0).trans rfl
  have y1 : w3.cell? ⟨gb, 1, none⟩ = some (.string (⟨#[]⟩ : ByteArray)) := (blk_cell BX3.out 1).trans rfl
  have y2 : w3.cell? ⟨gb, 2, none⟩ = some (.bool false) := (blk_cell BX3.out 2).trans rfl
  have z0 : w3.frozen? ⟨gb, 0, none⟩ = false := blk_frozen BX3.out 0
  have z1 : w3.frozen? ⟨gb, 1, none⟩ = false := blk_frozen BX3.out 1
  have z2 : w3.frozen? ⟨gb, 2, none⟩ = false := blk_frozen BX3.out 2
  go_wp2_with ((with_reducible refine (HT2.out A2 _).mono ?_); rintro e w4 ⟨rfl, rfl⟩)
  refine bodyPost_ret (results_list (rs := [.cell 2 79, .tmp 3, .tmp 4]) rfl (by simp) (.cell gb 79 #[.string (⟨#[]⟩ : ByteArray), .string (⟨#[]⟩ : ByteArray), .bool false] (0, 0) _ rfl (by refine blk_put (cs := #[.string (⟨#[]⟩ : ByteArray), .string (⟨#[]⟩ : ByteArray), .bool false]) ?_ 2 _ rfl; refine blk_put (cs := #[.string (⟨#[]⟩ : ByteArray), .string (⟨#[]⟩ : ByteArray), .bool false]) ?_ 1 _ rfl; refine blk_put (cs := #[.string (⟨#[]⟩ : ByteArray), .string (⟨#[]⟩ : ByteArray), .bool false]) ?_ 0 _ rfl; exact BX3.out) Try.underlying79 rfl (by kernel_rfl) (.tmp (.tmp .nil)))) rfl ?_
  exact ⟨rfl, (below_set (below_set (below_set HB3.out GE.out) GE.out) GE.out)⟩
set_option maxHeartbeats 8000000 in
set_option maxRecDepth 100000 in
theorem impl_readChange.cC (A : Option Addr) (c : Nat) (l : List Int) (k : Nat) (w : World) (hC : Kd.C (Kd.int .u8) w A l.length l) (hc : l.length ≤ c) (h0 : 0 < l.length) (hk : l.getD 0 0 = (k : Int)) (hk2 : k < 256) (hA : k ≤ (l.drop 1).length) (hB : 2 ≤ ((l.drop 1).drop k).length) (j : Nat) (hj : j ≤ 65534) (hn : impl_bigOf.f 3 (((l.drop 1).drop k).take 2) = some ((j : Int) + 1)) (hC3 : (((l.drop 1).drop k).drop 2).length < j) :
    Calls Try.prog 53 #[.slice A l.length c] w fun e w' => (∃ s0 s1 b, e = .returned (.tuple #[.agg #[.string s0, .string s1, .bool b], .slice none 0 0, .bool false])) ∧ Below w.heap.size w w' := by
  have hu := Try.underlying79
  have hl : l.length ≤ 9223372036854775807 := hC.2.1
  obtain ⟨i0, hi0, _, hsz, _⟩ := info_parts info5
  obtain ⟨A1, k1, r1, q1⟩ := print_cut_int (P := Try.prog) (k := .u8) 22 5 Try.underlying22 hi0 hsz A c l 1 (by omega) (by omega) hc
  have hR : ReadsInt w .u8 A l.length l := Kd.reads_of_C (enc := Value.int .u8) (d := (0 : Int)) (h1 := fun _ => rfl) hC
  obtain ⟨ad, rfl, hx⟩ := hR.at_ 0 (by omega) (by omega)
  have F1 := Aside0.mk (show ∀ W, Kd.C (Kd.int .u8) W (some ad) l.length l → Kd.C (Kd.int .u8) W A1 (l.drop 1).length (l.drop 1) from fun W hW => Kd.C_of_reads (h1 := fun _ => rfl) (r1 W (Kd.reads_of_C (enc := Value.int .u8) (d := (0 : Int)) (h1 := fun _ => rfl) hW)))
  have HC0 := Aside0.mk hC
  have Q1 := Aside0.mk (show (l.drop 1).length ≤ c - 1 from q1)
  rw [show (1 : Int).toNat = 1 from rfl] at k1
  rw [show rd l 0 = l.getD 0 0 from rfl, show (0 : Int).toNat = 0 from rfl, hk, show ad.add 0 = ad by unfold Addr.add; simp] at hx
  have h0z : (0 : Int) < (l.length : Int) := by omega
  have hkz : (k : Int) < 256 := by omega
  have hwk : IntKind.i64.wrap (k : Int) = k := by rw [IntKind.wrap_i64]; omega
  have hml : (l.drop 1).length ≤ 9223372036854775807 := by rw [List.length_drop]; omega
  generalize hm : l.drop 1 = m at *
  have HM := Aside0.mk hm
  clear hm
  have HT1 := Aside0.mk (fun W hW => impl_taken.yes A1 (c - 1) m k W hW Q1.out hA)
  have HT2 := Aside0.mk (show ∀ (A2 : Option Addr) (W : World), Kd.C (Kd.int .u8) W A2 (m.drop k).length (m.drop k) → (m.drop k).length ≤ c - 1 - k → Calls Try.prog 64 #[.slice A2 (m.drop k).length (c - 1 - k), .int .i64 2] W fun e w' => ∃ A3, e = .returned (.tuple #[.slice A2 ((m.drop k).take 2).length (c - 1 - k), .slice A3 ((m.drop k).drop 2).length (c - 1 - k - 2), .bool true]) ∧ (∀ W, Kd.C (Kd.int .u8) W A2 (m.drop k).length (m.drop k) → Kd.C (Kd.int .u8) W A2 ((m.drop k).take 2).length ((m.drop k).take 2)) ∧ ((m.drop k).take 2).length ≤ c - 1 - k ∧ (∀ W, Kd.C (Kd.int .u8) W A2 (m.drop k).length (m.drop k) → Kd.C (Kd.int .u8) W A3 ((m.drop k).drop 2).length ((m.drop k).drop 2)) ∧ ((m.drop k).drop 2).length ≤ c - 1 - k - 2 ∧ Below W.heap.size W w' from fun A2 W h1 h2 => impl_taken.yes A2 (c - 1 - k) (m.drop k) 2 W h1 h2 hB)
  have HBG := Aside0.mk (fun (A2 : Option Addr) (W : World) h1 h2 => impl_bigOf.calls 3 A2 (c - 1 - k) ((m.drop k).take 2) ((j : Int) + 1) W h1 h2 hn)
  have hjz : (j : Int) ≤ 65534 := by omega
  have hje : ((j : Int) + 1 == 0) = false := by simp; omega
  have hjp : ¬ ((j : Int) + 1 - 1 < 0) := by omega
  have hjw : (j : Int) + 1 - 1 = j := by omega
  have HT3 := Aside0.mk (fun (A3 : Option Addr) (W : World) => impl_taken.no A3 (c - 1 - k - 2) ((m.drop k).drop 2) j W (by rw [List.length_drop, List.length_drop]; omega) hC3)
  clear hR r1 q1 hi0 hsz hC hk hc
  go_enter Try.func53, Try.ntmps53
  go_wp2_with ((with_reducible refine gate_dst (N := 2) rfl ?_); refine box_event ?hg (N := 2) ?hd (cs := #[.string (⟨#[]⟩ : ByteArray), .string (⟨#[]⟩ : ByteArray), .bool false]) (t := 79) ?hr ?_; (case hd => rfl); (case hg => rfl); (case hr => first | (go_simp; done) | (go_simp; rfl)); intro gb hg w2 hbox hb; have GE := Aside0.mk (show w.heap.size ≤ gb by rw [hg]; exact Nat.le_refl _); have HB := Aside0.mk hb; have BX := Aside0.mk hbox; clear hbox hg hb)
  have hx2 : w2.cell? ad = some (.int .u8 (k : Int)) := (HB.out.cell (World.block_lt_of_cell? _ _ hx)).trans hx
  clear hx
  refine start_ (n := 14) (S := fun w' => w'.cell? ad = some (.int .u8 (k : Int))) (ds := [6]) #[false, false, false, false, false, false, false, false, false, false, false, false, false, false] (by kernel_rfl) rfl rfl (hx2) (fun hHeld => ?_)
  refine pure_ (i := 0) (N := some 12) (v := ?_) (a' := ?_) #[true, false, false, false, false, false, false, false, false, false, false, false, false, false] rfl rfl (by kernel_rfl) (fun _ _ _ h => h) (Or.inl ⟨by rfl, ?_⟩) ?_ ?_
  rotate_left
  · intro w'
    go_simp
    with_reducible rfl
  rotate_left
  · simp only [Act.put, List.setIfInBounds_toArray, List.set_cons_zero, List.set_cons_succ, i64_w, i32_w]
    rfl
  refine pure_ (i := 1) (N := some 13) (v := ?_) (a' := ?_) #[true, true, false, false, false, false, false, false, false, false, false, false, false, false] rfl rfl (by kernel_rfl) (fun _ _ _ h => h) (Or.inl ⟨by rfl, ?_⟩) ?_ ?_
  rotate_left
  · intro w'
    go_simp
    with_reducible rfl
  rotate_left
  · simp only [Act.put, List.setIfInBounds_toArray, List.set_cons_zero, List.set_cons_succ, i64_w, i32_w]
    rfl
  refine pure_ (i := 2) (N := some 14) (v := ?_) (a' := ?_) #[true, true, true, false, false, false, false, false, false, false, false, false, false, false] rfl rfl (by kernel_rfl) (fun _ _ _ h => h) (Or.inl ⟨by rfl, ?_⟩) ?_ ?_
  rotate_left
  · intro w'
    go_simp
    with_reducible rfl
  rotate_left
  · simp only [Act.put, List.setIfInBounds_toArray, List.set_cons_zero, List.set_cons_succ, i64_w, i32_w]
    rfl
  refine pure_ (i := 3) (N := some 15) (v := ?_) (a' := ?_) #[true, true, true, true, false, false, false, false, false, false, false, false, false, false] rfl rfl (by kernel_rfl) (fun _ _ _ h => h) (Or.inl ⟨by rfl, ?_⟩) ?_ ?_
  rotate_left
  · intro w'
    go_simp
    with_reducible rfl
  rotate_left
  · simp only [Act.put, List.setIfInBounds_toArray, List.set_cons_zero, List.set_cons_succ, i64_w, i32_w]
    rfl
  refine take_ (i := 4) (N := some 16) (v := ?_) (a' := ?_) #[true, true, true, true, true, false, false, false, false, false, false, false, false, false] rfl rfl (by kernel_rfl) (fun _ _ _ h => h) (Or.inl ⟨by rfl, ?_⟩) hHeld ?_ ?_
  rotate_left
  · intro w' s0
    go_simp
    with_reducible rfl
  rotate_left
  · simp only [Act.put, List.setIfInBounds_toArray, List.set_cons_zero, List.set_cons_succ, i64_w, i32_w]
    rfl
  refine pure_ (i := 5) (N := some 17) (v := ?_) (a' := ?_) #[true, true, true, true, true, true, false, false, false, false, false, false, false, false] rfl rfl (by kernel_rfl) (fun _ _ _ h => h) (Or.inl ⟨by rfl, ?_⟩) ?_ ?_
  rotate_left
  · intro w'
    go_simp
    with_reducible rfl
  rotate_left
  · simp only [Act.put, List.setIfInBounds_toArray, List.set_cons_zero, List.set_cons_succ, i64_w, i32_w]
    rfl
  refine last_ (i := 6) (N := some 18) #[true, true, true, true, true, true, true, false, false, false, false, false, false, false] rfl rfl (by kernel_rfl) (by decide) (fun K hK => ?_)
  refine goes_ Try.func64 (by kernel_rfl) rfl #[.slice A1 m.length (c - 1), .int .i64 (k : Int)] (by rfl) rfl rfl (by simp only [List.map_toArray, List.map_cons, List.map_nil] <;> rfl) ?_
  with_reducible refine (HT1.out _ (F1.out _ (Kd.C_below HC0.out (below_drew1 HB.out)))).mono ?_
  rintro e w3 ⟨A2, rfl, hC1_, hc1_, hC2_, hc2_, hb_⟩
  refine ⟨_, rfl, ?_⟩
  have HB3 := Aside0.mk (below_step (below_drew1 HB.out) hb_); have HCk := Aside0.mk (hC1_ _ (F1.out _ (Kd.C_below HC0.out HB3.out))); have HCr := Aside0.mk (hC2_ _ (F1.out _ (Kd.C_below HC0.out HB3.out))); have FR := Aside0.mk hC2_; have Qk := Aside0.mk hc1_; have Qr := Aside0.mk hc2_; have BX3 := Aside0.mk (box_below (show w2.drew.heap[gb]? = _ from BX.out) hb_); clear hC1_ hc1_ hC2_ hc2_ hb_
  generalize hkey : List.take k m = key at *
  generalize hr1 : List.drop k m = r1 at *
  have HKEY := Aside0.mk hkey; have HR1 := Aside0.mk hr1; clear hkey hr1
  refine hK.out _ _ ?_
  clear hK K
  refine norm_ (a' := ?_) ?_ ?_
  rotate_left
  · show Act.put _ (some 18) _ = _
    simp only [Act.put, List.setIfInBounds_toArray, List.set_cons_zero, List.set_cons_succ, i64_w, i32_w]
    rfl
  refine pure_ (i := 7) (N := some 11) (v := ?_) (a' := ?_) #[true, true, true, true, true, true, true, true, false, false, false, false, false, false] rfl rfl (by kernel_rfl) (fun _ _ _ h => h) (Or.inl ⟨by rfl, ?_⟩) ?_ ?_
  rotate_left
  · intro w'
    go_simp
    with_reducible rfl
  rotate_left
  · simp only [Act.put, List.setIfInBounds_toArray, List.set_cons_zero, List.set_cons_succ, i64_w, i32_w]
    rfl
  refine pure_ (i := 8) (N := some 19) (v := ?_) (a' := ?_) #[true, true, true, true, true, true, true, true, true, false, false, false, false, false] rfl rfl (by kernel_rfl) (fun _ _ _ h => h) (Or.inl ⟨by rfl, ?_⟩) ?_ ?_
  rotate_left
  · intro w'
    go_simp
    with_reducible rfl
  rotate_left
  · simp only [Act.put, List.setIfInBounds_toArray, List.set_cons_zero, List.set_cons_succ, i64_w, i32_w]
    rfl
  refine pure_ (i := 9) (N := some 20) (v := ?_) (a' := ?_) #[true, true, true, true, true, true, true, true, true, true, false, false, false, false] rfl rfl (by kernel_rfl) (fun _ _ _ h => h) (Or.inl ⟨by rfl, ?_⟩) ?_ ?_
  rotate_left
  · intro w'
    go_simp
    with_reducible rfl
  rotate_left
  · simp only [Act.put, List.setIfInBounds_toArray, List.set_cons_zero, List.set_cons_succ, i64_w, i32_w]
    rfl
  refine pure_ (i := 10) (N := some 21) (v := ?_) (a' := ?_) #[true, true, true, true, true, true, true, true, true, true, true, false, false, false] rfl rfl (by kernel_rfl) (fun _ _ _ h => h) (Or.inl ⟨by rfl, ?_⟩) ?_ ?_
  rotate_left
  · intro w'
    go_simp
    with_reducible rfl
  rotate_left
  · simp only [Act.put, List.setIfInBounds_toArray, List.set_cons_zero, List.set_cons_succ, i64_w, i32_w]
    rfl
  refine pure_ (i := 11) (N := some 5) (v := ?_) (a' := ?_) #[true, true, true, true, true, true, true, true, true, true, true, true, false, false] rfl rfl (by kernel_rfl) (fun _ _ _ h => h) (Or.inl ⟨by rfl, ?_⟩) ?_ ?_
  rotate_left
  · intro w'
    go_simp
    with_reducible rfl
  rotate_left
  · simp only [Act.put, List.setIfInBounds_toArray, List.set_cons_zero, List.set_cons_succ, i64_w, i32_w]
    rfl
  refine pure_ (i := 12) (N := some 6) (v := ?_) (a' := ?_) #[true, true, true, true, true, true, true, true, true, true, true, true, true, false] rfl rfl (by kernel_rfl) (fun _ _ _ h => h) (Or.inl ⟨by rfl, ?_⟩) ?_ ?_
  rotate_left
  · intro w'
    go_simp
    with_reducible rfl
  rotate_left
  · simp only [Act.put, List.setIfInBounds_toArray, List.set_cons_zero, List.set_cons_succ, i64_w, i32_w]
    rfl
  refine pure_ (i := 13) (N := some 7) (v := ?_) (a' := ?_) #[true, true, true, true, true, true, true, true, true, true, true, true, true, true] rfl rfl (by kernel_rfl) (fun _ _ _ h => h) (Or.inl ⟨by rfl, ?_⟩) ?_ ?_
  rotate_left
  · intro w'
    go_simp
    with_reducible rfl
  rotate_left
  · simp only [Act.put, List.setIfInBounds_toArray, List.set_cons_zero, List.set_cons_succ, i64_w, i32_w]
    rfl
  refine done_ (by kernel_rfl) ?_
  go_wp2_with (first
    | ((with_reducible refine (HT2.out A2 _ HCr.out Qr.out).mono ?_); rintro e w4 ⟨A3, rfl, a1_, a2_, a3_, a4_, hb_⟩; have HCh := Aside0.mk (a1_ _ (Kd.C_below HCr.out hb_)); have HCs := Aside0.mk (a3_ _ (Kd.C_below HCr.out hb_)); have FS := Aside0.mk a3_; have Qh := Aside0.mk a2_; have Qs := Aside0.mk a4_; have HB4 := Aside0.mk (below_step HB3.out hb_); have BX4 := Aside0.mk (impl_readChange.box_below BX3.out hb_); have HCk4 := Aside0.mk (Kd.C_below HCk.out hb_); clear a1_ a2_ a3_ a4_ hb_; generalize hq1 : List.take 2 r1 = hd at *; generalize hq2 : List.drop 2 r1 = r2 at *; have HQ1 := Aside0.mk hq1; have HQ2 := Aside0.mk hq2; clear hq1 hq2)
    | ((with_reducible refine (HBG.out A2 _ HCh.out Qh.out).mono ?_); rintro e w5 ⟨rfl, hd_⟩; have hb_ := hd_.below; have HB5 := Aside0.mk (below_step HB4.out hb_); have BX5 := Aside0.mk (impl_readChange.box_below BX4.out hb_); have HCk5 := Aside0.mk (Kd.C_below HCk4.out hb_); have HCs5 := Aside0.mk (Kd.C_below HCs.out hb_); clear hd_ hb_; (have y0 : w5.cell? ⟨gb, 0, none⟩ = some (.string (⟨#[]⟩ : ByteArray)) := (blk_cell BX5.out 0).trans rfl); (have y1 : w5.cell? ⟨gb, 1, none⟩ = some (.string (⟨#[]⟩ : ByteArray)) := (blk_cell BX5.out 1).trans rfl); (have y2 : w5.cell? ⟨gb, 2, none⟩ = some (.bool false) := (blk_cell BX5.out 2).trans rfl); (have z0 : w5.frozen? ⟨gb, 0, none⟩ = false := blk_frozen BX5.out 0); (have z1 : w5.frozen? ⟨gb, 1, none⟩ = false := blk_frozen BX5.out 1); (have z2 : w5.frozen? ⟨gb, 2, none⟩ = false := blk_frozen BX5.out 2))
    | ((with_reducible refine (HT3.out A3 _).mono ?_); rintro e w6 ⟨rfl, rfl⟩; have s1 := Kd.C_string (P := Try.prog) (c := c - 1) Try.underlying22 Try.underlying5 Try.underlying9 HCk5.out; have s2 := Kd.C_string (P := Try.prog) (c := 0) Try.underlying22 Try.underlying5 Try.underlying9 (Kd.C_nil (Kd.int .u8) w5); simp only [List.length_nil] at s2))
  refine bodyPost_ret (results_list (rs := [.cell 2 79, .tmp 3, .tmp 4]) rfl (by simp) (.cell gb 79 #[.string (strOfNums key), .string (strOfNums []), .bool false] (0, 0) _ rfl (by refine blk_put (cs := #[.string (strOfNums key), .string (strOfNums []), .bool false]) ?_ 2 _ rfl; refine blk_put (cs := #[.string (strOfNums key), .string (⟨#[]⟩ : ByteArray), .bool false]) ?_ 1 _ rfl; refine blk_put (cs := #[.string (⟨#[]⟩ : ByteArray), .string (⟨#[]⟩ : ByteArray), .bool false]) ?_ 0 _ rfl; exact BX5.out) Try.underlying79 rfl (by kernel_rfl) (.tmp (.tmp .nil)))) rfl ?_
  exact ⟨⟨_, _, _, rfl⟩, (below_set (below_set (below_set HB5.out GE.out) GE.out) GE.out)⟩
set_option maxHeartbeats 8000000 in
set_option maxRecDepth 100000 in
theorem impl_readChange.cZ (A : Option Addr) (c : Nat) (l : List Int) (k : Nat) (w : World) (hC : Kd.C (Kd.int .u8) w A l.length l) (hc : l.length ≤ c) (h0 : 0 < l.length) (hk : l.getD 0 0 = (k : Int)) (hk2 : k < 256) (hA : k ≤ (l.drop 1).length) (hB : 2 ≤ ((l.drop 1).drop k).length) (hn : impl_bigOf.f 3 (((l.drop 1).drop k).take 2) = some 0) :
    Calls Try.prog 53 #[.slice A l.length c] w fun e w' => ∃ A' c', e = .returned (.tuple #[.agg #[.string (strOfNums ((l.drop 1).take k)), .string (strOfNums ((((l.drop 1).drop k).drop 2).take 0)), .bool true], .slice A' ((((l.drop 1).drop k).drop 2).drop 0).length c', .bool true]) ∧ (∀ W, Kd.C (Kd.int .u8) W A l.length l → Kd.C (Kd.int .u8) W A' ((((l.drop 1).drop k).drop 2).drop 0).length ((((l.drop 1).drop k).drop 2).drop 0)) ∧ ((((l.drop 1).drop k).drop 2).drop 0).length ≤ c' ∧ Below w.heap.size w w' := by
  have hu := Try.underlying79
  have hl : l.length ≤ 9223372036854775807 := hC.2.1
  obtain ⟨i0, hi0, _, hsz, _⟩ := info_parts info5
  obtain ⟨A1, k1, r1, q1⟩ := print_cut_int (P := Try.prog) (k := .u8) 22 5 Try.underlying22 hi0 hsz A c l 1 (by omega) (by omega) hc
  have hR : ReadsInt w .u8 A l.length l := Kd.reads_of_C (enc := Value.int .u8) (d := (0 : Int)) (h1 := fun _ => rfl) hC
  obtain ⟨ad, rfl, hx⟩ := hR.at_ 0 (by omega) (by omega)
  have F1 := Aside0.mk (show ∀ W, Kd.C (Kd.int .u8) W (some ad) l.length l → Kd.C (Kd.int .u8) W A1 (l.drop 1).length (l.drop 1) from fun W hW => Kd.C_of_reads (h1 := fun _ => rfl) (r1 W (Kd.reads_of_C (enc := Value.int .u8) (d := (0 : Int)) (h1 := fun _ => rfl) hW)))
  have HC0 := Aside0.mk hC
  have Q1 := Aside0.mk (show (l.drop 1).length ≤ c - 1 from q1)
  rw [show (1 : Int).toNat = 1 from rfl] at k1
  rw [show rd l 0 = l.getD 0 0 from rfl, show (0 : Int).toNat = 0 from rfl, hk, show ad.add 0 = ad by unfold Addr.add; simp] at hx
  have h0z : (0 : Int) < (l.length : Int) := by omega
  have hkz : (k : Int) < 256 := by omega
  have hwk : IntKind.i64.wrap (k : Int) = k := by rw [IntKind.wrap_i64]; omega
  have hml : (l.drop 1).length ≤ 9223372036854775807 := by rw [List.length_drop]; omega
  generalize hm : l.drop 1 = m at *
  have HM := Aside0.mk hm
  clear hm
  have HT1 := Aside0.mk (fun W hW => impl_taken.yes A1 (c - 1) m k W hW Q1.out hA)
  have HT2 := Aside0.mk (show ∀ (A2 : Option Addr) (W : World), Kd.C (Kd.int .u8) W A2 (m.drop k).length (m.drop k) → (m.drop k).length ≤ c - 1 - k → Calls Try.prog 64 #[.slice A2 (m.drop k).length (c - 1 - k), .int .i64 2] W fun e w' => ∃ A3, e = .returned (.tuple #[.slice A2 ((m.drop k).take 2).length (c - 1 - k), .slice A3 ((m.drop k).drop 2).length (c - 1 - k - 2), .bool true]) ∧ (∀ W, Kd.C (Kd.int .u8) W A2 (m.drop k).length (m.drop k) → Kd.C (Kd.int .u8) W A2 ((m.drop k).take 2).length ((m.drop k).take 2)) ∧ ((m.drop k).take 2).length ≤ c - 1 - k ∧ (∀ W, Kd.C (Kd.int .u8) W A2 (m.drop k).length (m.drop k) → Kd.C (Kd.int .u8) W A3 ((m.drop k).drop 2).length ((m.drop k).drop 2)) ∧ ((m.drop k).drop 2).length ≤ c - 1 - k - 2 ∧ Below W.heap.size W w' from fun A2 W h1 h2 => impl_taken.yes A2 (c - 1 - k) (m.drop k) 2 W h1 h2 hB)
  have HBG := Aside0.mk (fun (A2 : Option Addr) (W : World) h1 h2 => impl_bigOf.calls 3 A2 (c - 1 - k) ((m.drop k).take 2) (0) W h1 h2 hn)
  have HT3 := Aside0.mk (show ∀ (A3 : Option Addr) (W : World), Kd.C (Kd.int .u8) W A3 ((m.drop k).drop 2).length ((m.drop k).drop 2) → ((m.drop k).drop 2).length ≤ c - 1 - k - 2 → Calls Try.prog 64 #[.slice A3 ((m.drop k).drop 2).length (c - 1 - k - 2), .int .i64 0] W fun e w' => ∃ A4, e = .returned (.tuple #[.slice A3 (((m.drop k).drop 2).take 0).length (c - 1 - k - 2), .slice A4 (((m.drop k).drop 2).drop 0).length (c - 1 - k - 2 - 0), .bool true]) ∧ (∀ W, Kd.C (Kd.int .u8) W A3 ((m.drop k).drop 2).length ((m.drop k).drop 2) → Kd.C (Kd.int .u8) W A3 (((m.drop k).drop 2).take 0).length (((m.drop k).drop 2).take 0)) ∧ (((m.drop k).drop 2).take 0).length ≤ c - 1 - k - 2 ∧ (∀ W, Kd.C (Kd.int .u8) W A3 ((m.drop k).drop 2).length ((m.drop k).drop 2) → Kd.C (Kd.int .u8) W A4 (((m.drop k).drop 2).drop 0).length (((m.drop k).drop 2).drop 0)) ∧ (((m.drop k).drop 2).drop 0).length ≤ c - 1 - k - 2 - 0 ∧ Below W.heap.size W w' from fun A3 W h1 h2 => impl_taken.yes A3 (c - 1 - k - 2) ((m.drop k).drop 2) 0 W h1 h2 (Nat.zero_le _))
  clear hR r1 q1 hi0 hsz hC hk hc
  go_enter Try.func53, Try.ntmps53
  go_wp2_with ((with_reducible refine gate_dst (N := 2) rfl ?_); refine box_event ?hg (N := 2) ?hd (cs := #[.string (⟨#[]⟩ : ByteArray), .string (⟨#[]⟩ : ByteArray), .bool false]) (t := 79) ?hr ?_; (case hd => rfl); (case hg => rfl); (case hr => first | (go_simp; done) | (go_simp; rfl)); intro gb hg w2 hbox hb; have GE := Aside0.mk (show w.heap.size ≤ gb by rw [hg]; exact Nat.le_refl _); have HB := Aside0.mk hb; have BX := Aside0.mk hbox; clear hbox hg hb)
  have hx2 : w2.cell? ad = some (.int .u8 (k : Int)) := (HB.out.cell (World.block_lt_of_cell? _ _ hx)).trans hx
  clear hx
  refine start_ (n := 14) (S := fun w' => w'.cell? ad = some (.int .u8 (k : Int))) (ds := [6]) #[false, false, false, false, false, false, false, false, false, false, false, false, false, false] (by kernel_rfl) rfl rfl (hx2) (fun hHeld => ?_)
  refine pure_ (i := 0) (N := some 12) (v := ?_) (a' := ?_) #[true, false, false, false, false, false, false, false, false, false, false, false, false, false] rfl rfl (by kernel_rfl) (fun _ _ _ h => h) (Or.inl ⟨by rfl, ?_⟩) ?_ ?_
  rotate_left
  · intro w'
    go_simp
    with_reducible rfl
  rotate_left
  · simp only [Act.put, List.setIfInBounds_toArray, List.set_cons_zero, List.set_cons_succ, i64_w, i32_w]
    rfl
  refine pure_ (i := 1) (N := some 13) (v := ?_) (a' := ?_) #[true, true, false, false, false, false, false, false, false, false, false, false, false, false] rfl rfl (by kernel_rfl) (fun _ _ _ h => h) (Or.inl ⟨by rfl, ?_⟩) ?_ ?_
  rotate_left
  · intro w'
    go_simp
    with_reducible rfl
  rotate_left
  · simp only [Act.put, List.setIfInBounds_toArray, List.set_cons_zero, List.set_cons_succ, i64_w, i32_w]
    rfl
  refine pure_ (i := 2) (N := some 14) (v := ?_) (a' := ?_) #[true, true, true, false, false, false, false, false, false, false, false, false, false, false] rfl rfl (by kernel_rfl) (fun _ _ _ h => h) (Or.inl ⟨by rfl, ?_⟩) ?_ ?_
  rotate_left
  · intro w'
    go_simp
    with_reducible rfl
  rotate_left
  · simp only [Act.put, List.setIfInBounds_toArray, List.set_cons_zero, List.set_cons_succ, i64_w, i32_w]
    rfl
  refine pure_ (i := 3) (N := some 15) (v := ?_) (a' := ?_) #[true, true, true, true, false, false, false, false, false, false, false, false, false, false] rfl rfl (by kernel_rfl) (fun _ _ _ h => h) (Or.inl ⟨by rfl, ?_⟩) ?_ ?_
  rotate_left
  · intro w'
    go_simp
    with_reducible rfl
  rotate_left
  · simp only [Act.put, List.setIfInBounds_toArray, List.set_cons_zero, List.set_cons_succ, i64_w, i32_w]
    rfl
  refine take_ (i := 4) (N := some 16) (v := ?_) (a' := ?_) #[true, true, true, true, true, false, false, false, false, false, false, false, false, false] rfl rfl (by kernel_rfl) (fun _ _ _ h => h) (Or.inl ⟨by rfl, ?_⟩) hHeld ?_ ?_
  rotate_left
  · intro w' s0
    go_simp
    with_reducible rfl
  rotate_left
  · simp only [Act.put, List.setIfInBounds_toArray, List.set_cons_zero, List.set_cons_succ, i64_w, i32_w]
    rfl
  refine pure_ (i := 5) (N := some 17) (v := ?_) (a' := ?_) #[true, true, true, true, true, true, false, false, false, false, false, false, false, false] rfl rfl (by kernel_rfl) (fun _ _ _ h => h) (Or.inl ⟨by rfl, ?_⟩) ?_ ?_
  rotate_left
  · intro w'
    go_simp
    with_reducible rfl
  rotate_left
  · simp only [Act.put, List.setIfInBounds_toArray, List.set_cons_zero, List.set_cons_succ, i64_w, i32_w]
    rfl
  refine last_ (i := 6) (N := some 18) #[true, true, true, true, true, true, true, false, false, false, false, false, false, false] rfl rfl (by kernel_rfl) (by decide) (fun K hK => ?_)
  refine goes_ Try.func64 (by kernel_rfl) rfl #[.slice A1 m.length (c - 1), .int .i64 (k : Int)] (by rfl) rfl rfl (by simp only [List.map_toArray, List.map_cons, List.map_nil] <;> rfl) ?_
  with_reducible refine (HT1.out _ (F1.out _ (Kd.C_below HC0.out (below_drew1 HB.out)))).mono ?_
  rintro e w3 ⟨A2, rfl, hC1_, hc1_, hC2_, hc2_, hb_⟩
  refine ⟨_, rfl, ?_⟩
  have HB3 := Aside0.mk (below_step (below_drew1 HB.out) hb_); have HCk := Aside0.mk (hC1_ _ (F1.out _ (Kd.C_below HC0.out HB3.out))); have HCr := Aside0.mk (hC2_ _ (F1.out _ (Kd.C_below HC0.out HB3.out))); have FR := Aside0.mk hC2_; have Qk := Aside0.mk hc1_; have Qr := Aside0.mk hc2_; have BX3 := Aside0.mk (box_below (show w2.drew.heap[gb]? = _ from BX.out) hb_); clear hC1_ hc1_ hC2_ hc2_ hb_
  generalize hkey : List.take k m = key at *
  generalize hr1 : List.drop k m = r1 at *
  have HKEY := Aside0.mk hkey; have HR1 := Aside0.mk hr1; clear hkey hr1
  refine hK.out _ _ ?_
  clear hK K
  refine norm_ (a' := ?_) ?_ ?_
  rotate_left
  · show Act.put _ (some 18) _ = _
    simp only [Act.put, List.setIfInBounds_toArray, List.set_cons_zero, List.set_cons_succ, i64_w, i32_w]
    rfl
  refine pure_ (i := 7) (N := some 11) (v := ?_) (a' := ?_) #[true, true, true, true, true, true, true, true, false, false, false, false, false, false] rfl rfl (by kernel_rfl) (fun _ _ _ h => h) (Or.inl ⟨by rfl, ?_⟩) ?_ ?_
  rotate_left
  · intro w'
    go_simp
    with_reducible rfl
  rotate_left
  · simp only [Act.put, List.setIfInBounds_toArray, List.set_cons_zero, List.set_cons_succ, i64_w, i32_w]
    rfl
  refine pure_ (i := 8) (N := some 19) (v := ?_) (a' := ?_) #[true, true, true, true, true, true, true, true, true, false, false, false, false, false] rfl rfl (by kernel_rfl) (fun _ _ _ h => h) (Or.inl ⟨by rfl, ?_⟩) ?_ ?_
  rotate_left
  · intro w'
    go_simp
    with_reducible rfl
  rotate_left
  · simp only [Act.put, List.setIfInBounds_toArray, List.set_cons_zero, List.set_cons_succ, i64_w, i32_w]
    rfl
  refine pure_ (i := 9) (N := some 20) (v := ?_) (a' := ?_) #[true, true, true, true, true, true, true, true, true, true, false, false, false, false] rfl rfl (by kernel_rfl) (fun _ _ _ h => h) (Or.inl ⟨by rfl, ?_⟩) ?_ ?_
  rotate_left
  · intro w'
    go_simp
    with_reducible rfl
  rotate_left
  · simp only [Act.put, List.setIfInBounds_toArray, List.set_cons_zero, List.set_cons_succ, i64_w, i32_w]
    rfl
  refine pure_ (i := 10) (N := some 21) (v := ?_) (a' := ?_) #[true, true, true, true, true, true, true, true, true, true, true, false, false, false] rfl rfl (by kernel_rfl) (fun _ _ _ h => h) (Or.inl ⟨by rfl, ?_⟩) ?_ ?_
  rotate_left
  · intro w'
    go_simp
    with_reducible rfl
  rotate_left
  · simp only [Act.put, List.setIfInBounds_toArray, List.set_cons_zero, List.set_cons_succ, i64_w, i32_w]
    rfl
  refine pure_ (i := 11) (N := some 5) (v := ?_) (a' := ?_) #[true, true, true, true, true, true, true, true, true, true, true, true, false, false] rfl rfl (by kernel_rfl) (fun _ _ _ h => h) (Or.inl ⟨by rfl, ?_⟩) ?_ ?_
  rotate_left
  · intro w'
    go_simp
    with_reducible rfl
  rotate_left
  · simp only [Act.put, List.setIfInBounds_toArray, List.set_cons_zero, List.set_cons_succ, i64_w, i32_w]
    rfl
  refine pure_ (i := 12) (N := some 6) (v := ?_) (a' := ?_) #[true, true, true, true, true, true, true, true, true, true, true, true, true, false] rfl rfl (by kernel_rfl) (fun _ _ _ h => h) (Or.inl ⟨by rfl, ?_⟩) ?_ ?_
  rotate_left
  · intro w'
    go_simp
    with_reducible rfl
  rotate_left
  · simp only [Act.put, List.setIfInBounds_toArray, List.set_cons_zero, List.set_cons_succ, i64_w, i32_w]
    rfl
  refine pure_ (i := 13) (N := some 7) (v := ?_) (a' := ?_) #[true, true, true, true, true, true, true, true, true, true, true, true, true, true] rfl rfl (by kernel_rfl) (fun _ _ _ h => h) (Or.inl ⟨by rfl, ?_⟩) ?_ ?_
  rotate_left
  · intro w'
    go_simp
    with_reducible rfl
  rotate_left
  · simp only [Act.put, List.setIfInBounds_toArray, List.set_cons_zero, List.set_cons_succ, i64_w, i32_w]
    rfl
  refine done_ (by kernel_rfl) ?_
  go_wp2_with (first
    | ((with_reducible refine (HT2.out A2 _ HCr.out Qr.out).mono ?_); rintro e w4 ⟨A3, rfl, a1_, a2_, a3_, a4_, hb_⟩; have HCh := Aside0.mk (a1_ _ (Kd.C_below HCr.out hb_)); have HCs := Aside0.mk (a3_ _ (Kd.C_below HCr.out hb_)); have FS := Aside0.mk a3_; have Qh := Aside0.mk a2_; have Qs := Aside0.mk a4_; have HB4 := Aside0.mk (below_step HB3.out hb_); have BX4 := Aside0.mk (impl_readChange.box_below BX3.out hb_); have HCk4 := Aside0.mk (Kd.C_below HCk.out hb_); clear a1_ a2_ a3_ a4_ hb_; generalize hq1 : List.take 2 r1 = hd at *; generalize hq2 : List.drop 2 r1 = r2 at *; have HQ1 := Aside0.mk hq1; have HQ2 := Aside0.mk hq2; clear hq1 hq2)
    | ((with_reducible refine (HBG.out A2 _ HCh.out Qh.out).mono ?_); rintro e w5 ⟨rfl, hd_⟩; have hb_ := hd_.below; have HB5 := Aside0.mk (below_step HB4.out hb_); have BX5 := Aside0.mk (impl_readChange.box_below BX4.out hb_); have HCk5 := Aside0.mk (Kd.C_below HCk4.out hb_); have HCs5 := Aside0.mk (Kd.C_below HCs.out hb_); clear hd_ hb_)
    | ((with_reducible refine (HT3.out A3 _ HCs5.out Qs.out).mono ?_); rintro e w6 ⟨A4, rfl, a1_, a2_, a3_, a4_, hb_⟩; have HCv := Aside0.mk (a1_ _ (Kd.C_below HCs5.out hb_)); have FT := Aside0.mk a3_; have Qt := Aside0.mk a4_; have HB6 := Aside0.mk (below_step HB5.out hb_); have BX6 := Aside0.mk (impl_readChange.box_below BX5.out hb_); have HCk6 := Aside0.mk (Kd.C_below HCk5.out hb_); clear a1_ a2_ a3_ a4_ hb_; generalize hq3 : List.take 0 r2 = vl at *; generalize hq4 : List.drop 0 r2 = r3 at *; have HQ3 := Aside0.mk hq3; have HQ4 := Aside0.mk hq4; clear hq3 hq4; have s1 := Kd.C_string (P := Try.prog) (c := c - 1) Try.underlying22 Try.underlying5 Try.underlying9 HCk6.out; have s2 := Kd.C_string (P := Try.prog) (c := c - 1 - k - 2) Try.underlying22 Try.underlying5 Try.underlying9 HCv.out; (have y0 : w6.cell? ⟨gb, 0, none⟩ = some (.string (⟨#[]⟩ : ByteArray)) := (blk_cell BX6.out 0).trans rfl); (have y1 : w6.cell? ⟨gb, 1, none⟩ = some (.string (⟨#[]⟩ : ByteArray)) := (blk_cell BX6.out 1).trans rfl); (have y2 : w6.cell? ⟨gb, 2, none⟩ = some (.bool false) := (blk_cell BX6.out 2).trans rfl); (have z0 : w6.frozen? ⟨gb, 0, none⟩ = false := blk_frozen BX6.out 0); (have z1 : w6.frozen? ⟨gb, 1, none⟩ = false := blk_frozen BX6.out 1); (have z2 : w6.frozen? ⟨gb, 2, none⟩ = false := blk_frozen BX6.out 2)))
  refine bodyPost_ret (results_list (rs := [.cell 2 79, .tmp 3, .tmp 4]) rfl (by simp) (.cell gb 79 #[.string (strOfNums key), .string (strOfNums vl), .bool true] (0, 0) _ rfl (by refine blk_put (cs := #[.string (strOfNums key), .string (strOfNums vl), .bool false]) ?_ 2 _ rfl; refine blk_put (cs := #[.string (strOfNums key), .string (⟨#[]⟩ : ByteArray), .bool false]) ?_ 1 _ rfl; refine blk_put (cs := #[.string (⟨#[]⟩ : ByteArray), .string (⟨#[]⟩ : ByteArray), .bool false]) ?_ 0 _ rfl; exact BX6.out) Try.underlying79 rfl (by kernel_rfl) (.tmp (.tmp .nil)))) rfl ?_
  rw [HKEY.out, HR1.out, HQ2.out, HQ3.out, HQ4.out]
  exact ⟨_, _, rfl, fun W hW => FT.out _ (FS.out _ (FR.out _ (F1.out _ hW))), Qt.out, (below_set (below_set (below_set HB6.out GE.out) GE.out) GE.out)⟩
set_option maxHeartbeats 8000000 in
set_option maxRecDepth 100000 in
theorem impl_readChange.cD (A : Option Addr) (c : Nat) (l : List Int) (k : Nat) (w : World) (hC : Kd.C (Kd.int .u8) w A l.length l) (hc : l.length ≤ c) (h0 : 0 < l.length) (hk : l.getD 0 0 = (k : Int)) (hk2 : k < 256) (hA : k ≤ (l.drop 1).length) (hB : 2 ≤ ((l.drop 1).drop k).length) (j : Nat) (hj : j ≤ 65534) (hn : impl_bigOf.f 3 (((l.drop 1).drop k).take 2) = some ((j : Int) + 1)) (hC3 : j ≤ (((l.drop 1).drop k).drop 2).length) :
    Calls Try.prog 53 #[.slice A l.length c] w fun e w' => ∃ A' c', e = .returned (.tuple #[.agg #[.string (strOfNums ((l.drop 1).take k)), .string (strOfNums ((((l.drop 1).drop k).drop 2).take j)), .bool false], .slice A' ((((l.drop 1).drop k).drop 2).drop j).length c', .bool true]) ∧ (∀ W, Kd.C (Kd.int .u8) W A l.length l → Kd.C (Kd.int .u8) W A' ((((l.drop 1).drop k).drop 2).drop j).length ((((l.drop 1).drop k).drop 2).drop j)) ∧ ((((l.drop 1).drop k).drop 2).drop j).length ≤ c' ∧ Below w.heap.size w w' := by
  have hu := Try.underlying79
  have hl : l.length ≤ 9223372036854775807 := hC.2.1
  obtain ⟨i0, hi0, _, hsz, _⟩ := info_parts info5
  obtain ⟨A1, k1, r1, q1⟩ := print_cut_int (P := Try.prog) (k := .u8) 22 5 Try.underlying22 hi0 hsz A c l 1 (by omega) (by omega) hc
  have hR : ReadsInt w .u8 A l.length l := Kd.reads_of_C (enc := Value.int .u8) (d := (0 : Int)) (h1 := fun _ => rfl) hC
  obtain ⟨ad, rfl, hx⟩ := hR.at_ 0 (by omega) (by omega)
  have F1 := Aside0.mk (show ∀ W, Kd.C (Kd.int .u8) W (some ad) l.length l → Kd.C (Kd.int .u8) W A1 (l.drop 1).length (l.drop 1) from fun W hW => Kd.C_of_reads (h1 := fun _ => rfl) (r1 W (Kd.reads_of_C (enc := Value.int .u8) (d := (0 : Int)) (h1 := fun _ => rfl) hW)))
  have HC0 := Aside0.mk hC
  have Q1 := Aside0.mk (show (l.drop 1).length ≤ c - 1 from q1)
  rw [show (1 : Int).toNat = 1 from rfl] at k1
  rw [show rd l 0 = l.getD 0 0 from rfl, show (0 : Int).toNat = 0 from rfl, hk, show ad.add 0 = ad by unfold Addr.add; simp] at hx
  have h0z : (0 : Int) < (l.length : Int) := by omega
  have hkz : (k : Int) < 256 := by omega
  have hwk : IntKind.i64.wrap (k : Int) = k := by rw [IntKind.wrap_i64]; omega
  have hml : (l.drop 1).length ≤ 9223372036854775807 := by rw [List.length_drop]; omega
  generalize hm : l.drop 1 = m at *
  have HM := Aside0.mk hm
  clear hm
  have HT1 := Aside0.mk (fun W hW => impl_taken.yes A1 (c - 1) m k W hW Q1.out hA)
  have HT2 := Aside0.mk (show ∀ (A2 : Option Addr) (W : World), Kd.C (Kd.int .u8) W A2 (m.drop k).length (m.drop k) → (m.drop k).length ≤ c - 1 - k → Calls Try.prog 64 #[.slice A2 (m.drop k).length (c - 1 - k), .int .i64 2] W fun e w' => ∃ A3, e = .returned (.tuple #[.slice A2 ((m.drop k).take 2).length (c - 1 - k), .slice A3 ((m.drop k).drop 2).length (c - 1 - k - 2), .bool true]) ∧ (∀ W, Kd.C (Kd.int .u8) W A2 (m.drop k).length (m.drop k) → Kd.C (Kd.int .u8) W A2 ((m.drop k).take 2).length ((m.drop k).take 2)) ∧ ((m.drop k).take 2).length ≤ c - 1 - k ∧ (∀ W, Kd.C (Kd.int .u8) W A2 (m.drop k).length (m.drop k) → Kd.C (Kd.int .u8) W A3 ((m.drop k).drop 2).length ((m.drop k).drop 2)) ∧ ((m.drop k).drop 2).length ≤ c - 1 - k - 2 ∧ Below W.heap.size W w' from fun A2 W h1 h2 => impl_taken.yes A2 (c - 1 - k) (m.drop k) 2 W h1 h2 hB)
  have HBG := Aside0.mk (fun (A2 : Option Addr) (W : World) h1 h2 => impl_bigOf.calls 3 A2 (c - 1 - k) ((m.drop k).take 2) ((j : Int) + 1) W h1 h2 hn)
  have hjz : (j : Int) ≤ 65534 := by omega
  have hje : ((j : Int) + 1 == 0) = false := by simp; omega
  have hjp : ¬ ((j : Int) + 1 - 1 < 0) := by omega
  have hjw : (j : Int) + 1 - 1 = j := by omega
  have HT3 := Aside0.mk (fun (A3 : Option Addr) (W : World) h1 h2 => impl_taken.yes A3 (c - 1 - k - 2) ((m.drop k).drop 2) j W h1 h2 hC3)
  clear hR r1 q1 hi0 hsz hC hk hc
  go_enter Try.func53, Try.ntmps53
  go_wp2_with ((with_reducible refine gate_dst (N := 2) rfl ?_); refine box_event ?hg (N := 2) ?hd (cs := #[.string (⟨#[]⟩ : ByteArray), .string (⟨#[]⟩ : ByteArray), .bool false]) (t := 79) ?hr ?_; (case hd => rfl); (case hg => rfl); (case hr => first | (go_simp; done) | (go_simp; rfl)); intro gb hg w2 hbox hb; have GE := Aside0.mk (show w.heap.size ≤ gb by rw [hg]; exact Nat.le_refl _); have HB := Aside0.mk hb; have BX := Aside0.mk hbox; clear hbox hg hb)
  have hx2 : w2.cell? ad = some (.int .u8 (k : Int)) := (HB.out.cell (World.block_lt_of_cell? _ _ hx)).trans hx
  clear hx
  refine start_ (n := 14) (S := fun w' => w'.cell? ad = some (.int .u8 (k : Int))) (ds := [6]) #[false, false, false, false, false, false, false, false, false, false, false, false, false, false] (by kernel_rfl) rfl rfl (hx2) (fun hHeld => ?_)
  refine pure_ (i := 0) (N := some 12) (v := ?_) (a' := ?_) #[true, false, false, false, false, false, false, false, false, false, false, false, false, false] rfl rfl (by kernel_rfl) (fun _ _ _ h => h) (Or.inl ⟨by rfl, ?_⟩) ?_ ?_
  rotate_left
  · intro w'
    go_simp
    with_reducible rfl
  rotate_left
  · simp only [Act.put, List.setIfInBounds_toArray, List.set_cons_zero, List.set_cons_succ, i64_w, i32_w]
    rfl
  refine pure_ (i := 1) (N := some 13) (v := ?_) (a' := ?_) #[true, true, false, false, false, false, false, false, false, false, false, false, false, false] rfl rfl (by kernel_rfl) (fun _ _ _ h => h) (Or.inl ⟨by rfl, ?_⟩) ?_ ?_
  rotate_left
  · intro w'
    go_simp
    with_reducible rfl
  rotate_left
  · simp only [Act.put, List.setIfInBounds_toArray, List.set_cons_zero, List.set_cons_succ, i64_w, i32_w]
    rfl
  refine pure_ (i := 2) (N := some 14) (v := ?_) (a' := ?_) #[true, true, true, false, false, false, false, false, false, false, false, false, false, false] rfl rfl (by kernel_rfl) (fun _ _ _ h => h) (Or.inl ⟨by rfl, ?_⟩) ?_ ?_
  rotate_left
  · intro w'
    go_simp
    with_reducible rfl
  rotate_left
  · simp only [Act.put, List.setIfInBounds_toArray, List.set_cons_zero, List.set_cons_succ, i64_w, i32_w]
    rfl
  refine pure_ (i := 3) (N := some 15) (v := ?_) (a' := ?_) #[true, true, true, true, false, false, false, false, false, false, false, false, false, false] rfl rfl (by kernel_rfl) (fun _ _ _ h => h) (Or.inl ⟨by rfl, ?_⟩) ?_ ?_
  rotate_left
  · intro w'
    go_simp
    with_reducible rfl
  rotate_left
  · simp only [Act.put, List.setIfInBounds_toArray, List.set_cons_zero, List.set_cons_succ, i64_w, i32_w]
    rfl
  refine take_ (i := 4) (N := some 16) (v := ?_) (a' := ?_) #[true, true, true, true, true, false, false, false, false, false, false, false, false, false] rfl rfl (by kernel_rfl) (fun _ _ _ h => h) (Or.inl ⟨by rfl, ?_⟩) hHeld ?_ ?_
  rotate_left
  · intro w' s0
    go_simp
    with_reducible rfl
  rotate_left
  · simp only [Act.put, List.setIfInBounds_toArray, List.set_cons_zero, List.set_cons_succ, i64_w, i32_w]
    rfl
  refine pure_ (i := 5) (N := some 17) (v := ?_) (a' := ?_) #[true, true, true, true, true, true, false, false, false, false, false, false, false, false] rfl rfl (by kernel_rfl) (fun _ _ _ h => h) (Or.inl ⟨by rfl, ?_⟩) ?_ ?_
  rotate_left
  · intro w'
    go_simp
    with_reducible rfl
  rotate_left
  · simp only [Act.put, List.setIfInBounds_toArray, List.set_cons_zero, List.set_cons_succ, i64_w, i32_w]
    rfl
  refine last_ (i := 6) (N := some 18) #[true, true, true, true, true, true, true, false, false, false, false, false, false, false] rfl rfl (by kernel_rfl) (by decide) (fun K hK => ?_)
  refine goes_ Try.func64 (by kernel_rfl) rfl #[.slice A1 m.length (c - 1), .int .i64 (k : Int)] (by rfl) rfl rfl (by simp only [List.map_toArray, List.map_cons, List.map_nil] <;> rfl) ?_
  with_reducible refine (HT1.out _ (F1.out _ (Kd.C_below HC0.out (below_drew1 HB.out)))).mono ?_
  rintro e w3 ⟨A2, rfl, hC1_, hc1_, hC2_, hc2_, hb_⟩
  refine ⟨_, rfl, ?_⟩
  have HB3 := Aside0.mk (below_step (below_drew1 HB.out) hb_); have HCk := Aside0.mk (hC1_ _ (F1.out _ (Kd.C_below HC0.out HB3.out))); have HCr := Aside0.mk (hC2_ _ (F1.out _ (Kd.C_below HC0.out HB3.out))); have FR := Aside0.mk hC2_; have Qk := Aside0.mk hc1_; have Qr := Aside0.mk hc2_; have BX3 := Aside0.mk (box_below (show w2.drew.heap[gb]? = _ from BX.out) hb_); clear hC1_ hc1_ hC2_ hc2_ hb_
  generalize hkey : List.take k m = key at *
  generalize hr1 : List.drop k m = r1 at *
  have HKEY := Aside0.mk hkey; have HR1 := Aside0.mk hr1; clear hkey hr1
  refine hK.out _ _ ?_
  clear hK K
  refine norm_ (a' := ?_) ?_ ?_
  rotate_left
  · show Act.put _ (some 18) _ = _
    simp only [Act.put, List.setIfInBounds_toArray, List.set_cons_zero, List.set_cons_succ, i64_w, i32_w]
    rfl
  refine pure_ (i := 7) (N := some 11) (v := ?_) (a' := ?_) #[true, true, true, true, true, true, true, true, false, false, false, false, false, false] rfl rfl (by kernel_rfl) (fun _ _ _ h => h) (Or.inl ⟨by rfl, ?_⟩) ?_ ?_
  rotate_left
  · intro w'
    go_simp
    with_reducible rfl
  rotate_left
  · simp only [Act.put, List.setIfInBounds_toArray, List.set_cons_zero, List.set_cons_succ, i64_w, i32_w]
    rfl
  refine pure_ (i := 8) (N := some 19) (v := ?_) (a' := ?_) #[true, true, true, true, true, true, true, true, true, false, false, false, false, false] rfl rfl (by kernel_rfl) (fun _ _ _ h => h) (Or.inl ⟨by rfl, ?_⟩) ?_ ?_
  rotate_left
  · intro w'
    go_simp
    with_reducible rfl
  rotate_left
  · simp only [Act.put, List.setIfInBounds_toArray, List.set_cons_zero, List.set_cons_succ, i64_w, i32_w]
    rfl
  refine pure_ (i := 9) (N := some 20) (v := ?_) (a' := ?_) #[true, true, true, true, true, true, true, true, true, true, false, false, false, false] rfl rfl (by kernel_rfl) (fun _ _ _ h => h) (Or.inl ⟨by rfl, ?_⟩) ?_ ?_
  rotate_left
  · intro w'
    go_simp
    with_reducible rfl
  rotate_left
  · simp only [Act.put, List.setIfInBounds_toArray, List.set_cons_zero, List.set_cons_succ, i64_w, i32_w]
    rfl
  refine pure_ (i := 10) (N := some 21) (v := ?_) (a' := ?_) #[true, true, true, true, true, true, true, true, true, true, true, false, false, false] rfl rfl (by kernel_rfl) (fun _ _ _ h => h) (Or.inl ⟨by rfl, ?_⟩) ?_ ?_
  rotate_left
  · intro w'
    go_simp
    with_reducible rfl
  rotate_left
  · simp only [Act.put, List.setIfInBounds_toArray, List.set_cons_zero, List.set_cons_succ, i64_w, i32_w]
    rfl
  refine pure_ (i := 11) (N := some 5) (v := ?_) (a' := ?_) #[true, true, true, true, true, true, true, true, true, true, true, true, false, false] rfl rfl (by kernel_rfl) (fun _ _ _ h => h) (Or.inl ⟨by rfl, ?_⟩) ?_ ?_
  rotate_left
  · intro w'
    go_simp
    with_reducible rfl
  rotate_left
  · simp only [Act.put, List.setIfInBounds_toArray, List.set_cons_zero, List.set_cons_succ, i64_w, i32_w]
    rfl
  refine pure_ (i := 12) (N := some 6) (v := ?_) (a' := ?_) #[true, true, true, true, true, true, true, true, true, true, true, true, true, false] rfl rfl (by kernel_rfl) (fun _ _ _ h => h) (Or.inl ⟨by rfl, ?_⟩) ?_ ?_
  rotate_left
  · intro w'
    go_simp
    with_reducible rfl
  rotate_left
  · simp only [Act.put, List.setIfInBounds_toArray, List.set_cons_zero, List.set_cons_succ, i64_w, i32_w]
    rfl
  refine pure_ (i := 13) (N := some 7) (v := ?_) (a' := ?_) #[true, true, true, true, true, true, true, true, true, true, true, true, true, true] rfl rfl (by kernel_rfl) (fun _ _ _ h => h) (Or.inl ⟨by rfl, ?_⟩) ?_ ?_
  rotate_left
  · intro w'
    go_simp
    with_reducible rfl
  rotate_left
  · simp only [Act.put, List.setIfInBounds_toArray, List.set_cons_zero, List.set_cons_succ, i64_w, i32_w]
    rfl
  refine done_ (by kernel_rfl) ?_
  go_wp2_with (first
    | ((with_reducible refine (HT2.out A2 _ HCr.out Qr.out).mono ?_); rintro e w4 ⟨A3, rfl, a1_, a2_, a3_, a4_, hb_⟩; have HCh := Aside0.mk (a1_ _ (Kd.C_below HCr.out hb_)); have HCs := Aside0.mk (a3_ _ (Kd.C_below HCr.out hb_)); have FS := Aside0.mk a3_; have Qh := Aside0.mk a2_; have Qs := Aside0.mk a4_; have HB4 := Aside0.mk (below_step HB3.out hb_); have BX4 := Aside0.mk (impl_readChange.box_below BX3.out hb_); have HCk4 := Aside0.mk (Kd.C_below HCk.out hb_); clear a1_ a2_ a3_ a4_ hb_; generalize hq1 : List.take 2 r1 = hd at *; generalize hq2 : List.drop 2 r1 = r2 at *; have HQ1 := Aside0.mk hq1; have HQ2 := Aside0.mk hq2; clear hq1 hq2)
    | ((with_reducible refine (HBG.out A2 _ HCh.out Qh.out).mono ?_); rintro e w5 ⟨rfl, hd_⟩; have hb_ := hd_.below; have HB5 := Aside0.mk (below_step HB4.out hb_); have BX5 := Aside0.mk (impl_readChange.box_below BX4.out hb_); have HCk5 := Aside0.mk (Kd.C_below HCk4.out hb_); have HCs5 := Aside0.mk (Kd.C_below HCs.out hb_); clear hd_ hb_)
    | ((with_reducible refine (HT3.out A3 _ HCs5.out Qs.out).mono ?_); rintro e w6 ⟨A4, rfl, a1_, a2_, a3_, a4_, hb_⟩; have HCv := Aside0.mk (a1_ _ (Kd.C_below HCs5.out hb_)); have FT := Aside0.mk a3_; have Qt := Aside0.mk a4_; have HB6 := Aside0.mk (below_step HB5.out hb_); have BX6 := Aside0.mk (impl_readChange.box_below BX5.out hb_); have HCk6 := Aside0.mk (Kd.C_below HCk5.out hb_); clear a1_ a2_ a3_ a4_ hb_; generalize hq3 : List.take j r2 = vl at *; generalize hq4 : List.drop j r2 = r3 at *; have HQ3 := Aside0.mk hq3; have HQ4 := Aside0.mk hq4; clear hq3 hq4; have s1 := Kd.C_string (P := Try.prog) (c := c - 1) Try.underlying22 Try.underlying5 Try.underlying9 HCk6.out; have s2 := Kd.C_string (P := Try.prog) (c := c - 1 - k - 2) Try.underlying22 Try.underlying5 Try.underlying9 HCv.out; (have y0 : w6.cell? ⟨gb, 0, none⟩ = some (.string (⟨#[]⟩ : ByteArray)) := (blk_cell BX6.out 0).trans rfl); (have y1 : w6.cell? ⟨gb, 1, none⟩ = some (.string (⟨#[]⟩ : ByteArray)) := (blk_cell BX6.out 1).trans rfl); (have y2 : w6.cell? ⟨gb, 2, none⟩ = some (.bool false) := (blk_cell BX6.out 2).trans rfl); (have z0 : w6.frozen? ⟨gb, 0, none⟩ = false := blk_frozen BX6.out 0); (have z1 : w6.frozen? ⟨gb, 1, none⟩ = false := blk_frozen BX6.out 1); (have z2 : w6.frozen? ⟨gb, 2, none⟩ = false := blk_frozen BX6.out 2)))
  refine bodyPost_ret (results_list (rs := [.cell 2 79, .tmp 3, .tmp 4]) rfl (by simp) (.cell gb 79 #[.string (strOfNums key), .string (strOfNums vl), .bool false] (0, 0) _ rfl (by refine blk_put (cs := #[.string (strOfNums key), .string (strOfNums vl), .bool false]) ?_ 2 _ rfl; refine blk_put (cs := #[.string (strOfNums key), .string (⟨#[]⟩ : ByteArray), .bool false]) ?_ 1 _ rfl; refine blk_put (cs := #[.string (⟨#[]⟩ : ByteArray), .string (⟨#[]⟩ : ByteArray), .bool false]) ?_ 0 _ rfl; exact BX6.out) Try.underlying79 rfl (by kernel_rfl) (.tmp (.tmp .nil)))) rfl ?_
  rw [HKEY.out, HR1.out, HQ2.out, HQ3.out, HQ4.out]
  exact ⟨_, _, rfl, fun W hW => FT.out _ (FS.out _ (FR.out _ (F1.out _ hW))), Qt.out, (below_set (below_set (below_set HB6.out GE.out) GE.out) GE.out)⟩
theorem impl_readChange.head2 (m : List Int) (h : 2 ≤ m.length) : m.take 2 = [m.getD 0 0, m.getD 1 0] := by
  match m, h with
  | a :: b :: r, _ => rfl
theorem impl_readChange.shorter {l : List Int} {s : S79} {r : List Int} (h : impl_readChange.go l = some (s, r)) (h0 : 0 < l.length) : r.length < l.length := by
  simp only [impl_readChange.go] at h
  split at h
  · cases h
  · injection h with h
    injection h with _ h
    subst h
    simp only [List.length_drop]
    omega
theorem impl_readChange.range {l : List Int} {s : S79} {r : List Int} (h : impl_readChange.go l = some (s, r)) (hb : ∀ x ∈ l, 0 ≤ x ∧ x < 256) : ∀ x ∈ r, 0 ≤ x ∧ x < 256 := by
  simp only [impl_readChange.go] at h
  split at h
  · cases h
  · injection h with h
    injection h with _ h
    subst h
    intro x hx
    exact hb x (List.mem_of_mem_drop (List.mem_of_mem_drop (List.mem_of_mem_drop (List.mem_of_mem_drop hx))))
theorem impl_readChange.all (A : Option Addr) (c : Nat) (l : List Int) (w : World) (hC : Kd.C (Kd.int .u8) w A l.length l) (hc : l.length ≤ c) (h0 : 0 < l.length) (hb : ∀ x ∈ l, 0 ≤ x ∧ x < 256) :
    (impl_readChange.go l = none → Calls Try.prog 53 #[.slice A l.length c] w fun e w' => (∃ s0 s1 b, e = .returned (.tuple #[.agg #[.string s0, .string s1, .bool b], .slice none 0 0, .bool false])) ∧ Below w.heap.size w w') ∧
    (∀ s r, impl_readChange.go l = some (s, r) → Calls Try.prog 53 #[.slice A l.length c] w fun e w' => ∃ A' c', e = .returned (.tuple #[.agg #[.string s.f0, .string s.f1, .bool s.f2], .slice A' r.length c', .bool true]) ∧ (∀ W, Kd.C (Kd.int .u8) W A l.length l → Kd.C (Kd.int .u8) W A' r.length r) ∧ r.length ≤ c' ∧ Below w.heap.size w w') := by
  have hge : ∀ (m : List Int) (i : Nat), (∀ x ∈ m, 0 ≤ x ∧ x < 256) → 0 ≤ m.getD i 0 ∧ m.getD i 0 < 256 := fun m i hm => by
    by_cases hi : i < m.length
    · exact hm _ (by rw [List.getD_eq_getElem?_getD, List.getElem?_eq_getElem hi]; exact List.getElem_mem hi)
    · rw [List.getD_eq_getElem?_getD, List.getElem?_eq_none (by omega)]; exact ⟨by decide, by decide⟩
  have hk := hge l 0 hb
  obtain ⟨k, hkk⟩ : ∃ k : Nat, l.getD 0 0 = (k : Int) := ⟨(l.getD 0 0).toNat, by omega⟩
  have hk2 : k < 256 := by omega
  have hb1 : ∀ x ∈ (l.drop 1).drop k, 0 ≤ x ∧ x < 256 := fun x hx => hb x (List.mem_of_mem_drop (List.mem_of_mem_drop hx))
  have g0 := hge _ 0 hb1
  have g1 := hge _ 1 hb1
  have hgo : impl_readChange.go l = if (l.drop 1).length < k ∨ ((l.drop 1).drop k).length < 2 ∨ (((l.drop 1).drop k).drop 2).length < (((l.drop 1).drop k).getD 0 0 * 256 + ((l.drop 1).drop k).getD 1 0).toNat - 1 then none else some (⟨strOfNums ((l.drop 1).take k), strOfNums ((((l.drop 1).drop k).drop 2).take ((((l.drop 1).drop k).getD 0 0 * 256 + ((l.drop 1).drop k).getD 1 0).toNat - 1)), (((l.drop 1).drop k).getD 0 0 * 256 + ((l.drop 1).drop k).getD 1 0).toNat == 0⟩, (((l.drop 1).drop k).drop 2).drop ((((l.drop 1).drop k).getD 0 0 * 256 + ((l.drop 1).drop k).getD 1 0).toNat - 1)) := by
    unfold impl_readChange.go; rw [hkk]; rfl
  by_cases hA : (l.drop 1).length < k
  · rw [hgo, if_pos (.inl hA)]
    exact ⟨fun _ => (impl_readChange.cA A c l k w hC hc h0 hkk hk2 hA).mono fun _ _ h => ⟨⟨_, _, _, h.1⟩, h.2⟩, (fun _ _ h => by cases h)⟩
  · by_cases hB : ((l.drop 1).drop k).length < 2
    · rw [hgo, if_pos (.inr (.inl hB))]
      exact ⟨fun _ => (impl_readChange.cB A c l k w hC hc h0 hkk hk2 (by omega) hB).mono fun _ _ h => ⟨⟨_, _, _, h.1⟩, h.2⟩, (fun _ _ h => by cases h)⟩
    · have hbig := impl_readChange.big2 _ _ g0.1 g0.2 g1.1 g1.2
      rw [← impl_readChange.head2 _ (by omega)] at hbig
      obtain ⟨n, hn⟩ : ∃ n : Nat, ((l.drop 1).drop k).getD 0 0 * 256 + ((l.drop 1).drop k).getD 1 0 = (n : Int) := ⟨(((l.drop 1).drop k).getD 0 0 * 256 + ((l.drop 1).drop k).getD 1 0).toNat, by omega⟩
      rw [hn] at hgo hbig
      rw [Int.toNat_natCast] at hgo
      cases n with
      | zero =>
        rw [hgo, if_neg (by omega)]
        refine ⟨(fun h => by cases h), fun s r h => ?_⟩
        injection h with h
        injection h with h1 h2
        subst h1 h2
        exact impl_readChange.cZ A c l k w hC hc h0 hkk hk2 (by omega) (by omega) hbig
      | succ j =>
        have hbig2 : impl_bigOf.f 3 (((l.drop 1).drop k).take 2) = some ((j : Int) + 1) := by rw [hbig]; rfl
        rw [Nat.add_sub_cancel] at hgo
        by_cases hC3 : (((l.drop 1).drop k).drop 2).length < j
        · rw [hgo, if_pos (.inr (.inr hC3))]
          exact ⟨fun _ => impl_readChange.cC A c l k w hC hc h0 hkk hk2 (by omega) (by omega) j (by omega) hbig2 hC3, (fun _ _ h => by cases h)⟩
        · rw [hgo, if_neg (by omega)]
          refine ⟨(fun h => by cases h), fun s r h => ?_⟩
          injection h with h
          injection h with h1 h2
          subst h1 h2
          exact impl_readChange.cD A c l k w hC hc h0 hkk hk2 (by omega) (by omega) j (by omega) hbig2 (by omega)
def impl_readBatch.ok (s : S79) : Bool := (impl_isChange.f s.f0 s.f1 s.f2).getD false
theorem impl_readBatch.lit_some (s : S79) : impl_isChange.f s.f0 s.f1 s.f2 = some (impl_readBatch.ok s) := by
  unfold impl_readBatch.ok impl_isChange.f impl_isKey.f impl_within.f
  repeat' (first | rfl | split | (simp only [Option.bind_some]))
def impl_readBatch.go : Nat → List Int → List S79 → Option (List S79)
  | 0, _, _ => none
  | k + 1, l, out => if l.length = 0 then some out else
    match impl_readChange.go l with
    | none => none
    | some (s, r) => if out.length = 30 then none else if impl_readBatch.ok s = true then impl_readBatch.go k r (out ++ [s]) else none
def impl_readBatch.res : Option (List S79) → List (S79) × Bool
  | some out => (out, true)
  | none => ([], false)
def impl_readBatch.f (l0 : List Int) : Option ((List (S79)) × Bool) :=
  if l0.length ≤ 65536 ∧ l0.all (fun x => decide (0 ≤ x) && decide (x < 256)) = true then
    some (impl_readBatch.res (impl_readBatch.go (l0.length + 1) l0 []))
  else none
set_option maxHeartbeats 8000000 in
set_option maxRecDepth 100000 in
theorem impl_readBatch.calls (A0 : Option Addr) (c0 : Nat) (l0 : List Int) (r1 : List (S79)) (r2 : Bool) (w : World) (hr0 : Kd.C (Kd.int .u8) w A0 l0.length l0) (hc0 : l0.length ≤ c0) (h : impl_readBatch.f l0 = some (r1, r2)) :
    Calls Try.prog 40 #[.slice A0 l0.length c0] w fun e w' => ∃ v0_ : Value, e = .returned (.tuple #[v0_, .bool r2]) ∧ Kd.R k79 79 w' w.heap.size (fun _ => True) v0_ r1 ∧ Below w.heap.size w w' := by
  have hu := Try.underlying79
  unfold impl_readBatch.f at h
  have hs : l0.length ≤ 65536 ∧ l0.all (fun x => decide (0 ≤ x) && decide (x < 256)) = true := Decidable.byContradiction fun hs => by rw [if_neg hs] at h; cases h
  rw [if_pos hs] at h
  have hall : ∀ x ∈ l0, 0 ≤ x ∧ x < 256 := by
    have := hs.2
    simp only [List.all_eq_true, Bool.and_eq_true, decide_eq_true_eq] at this
    exact this
  obtain ⟨hlen, _⟩ := hs
  obtain ⟨R, hR⟩ : ∃ R, impl_readBatch.go (l0.length + 1) l0 [] = R := ⟨_, rfl⟩
  rw [hR] at h
  have HR := Aside0.mk (show some (impl_readBatch.res R) = some (r1, r2) from h)
  have HG := Aside0.mk hR
  have HALL := Aside0.mk hall
  have HC := Aside0.mk hr0
  have HB := Aside0.mk (Below.refl w.heap.size w)
  clear h hR hall hr0
  go_enter Try.func40, Try.ntmps40
  go_wp2
  go_loopg [0, 4, 5, 6, 7] l0.length (fun gg s0 s4 _ _ _ wr => ∃ (A : Option Addr) (c : Nat) (l : List Int) (out : List S79) (F : Nat), l.length ≤ gg ∧ l.length ≤ 65536 ∧ l.length ≤ c ∧ s0 = .slice A l.length c ∧ Aside0 (∀ W, Kd.C (Kd.int .u8) W A0 l0.length l0 → Kd.C (Kd.int .u8) W A l.length l) ∧ Aside0 (∀ x ∈ l, 0 ≤ x ∧ x < 256) ∧ Aside0 (l.length < F ∧ impl_readBatch.go F l out = R) ∧ out.length ≤ 30 ∧ Aside0 (Kd.R k79 79 wr w.heap.size (fun _ => True) s4 out) ∧ Aside0 (Below w.heap.size w wr))
  case atStart => exact ⟨A0, c0, l0, [], l0.length + 1, Nat.le_refl _, hlen, hc0, rfl, ⟨fun _ h => h⟩, HALL, ⟨⟨by omega, HG.out⟩⟩, by simp, ⟨Kd.R_nil _ _ _ _ _⟩, HB⟩
  case round =>
    obtain ⟨A, c, l, out, F, hg, hl1, hlc, rfl, HC1, HA1, HF, hout, HO, HB1⟩ := hrel
    by_cases h0 : l.length = 0
    · have hz : ¬ (0 : Int) < (l.length : Int) := by omega
      have hzn : ¬ 0 < l.length := by omega
      have HZ := Aside0.mk h0
      clear h0
      go_wp2
      go_ret2
      obtain ⟨hF, hG⟩ := HF.out
      obtain ⟨F, rfl⟩ : ∃ m, F = m + 1 := ⟨F - 1, by omega⟩
      rw [impl_readBatch.go, if_pos HZ.out] at hG
      have hr := HR.out
      rw [← hG] at hr
      injection hr with hr
      injection hr with e1 e2
      subst e1 e2
      exact ⟨_, rfl, HO.out, HB1.out⟩
    · have hz : (0 : Int) < (l.length : Int) := by omega
      have hzn : 0 < l.length := by omega
      obtain ⟨hF, hG⟩ := HF.out
      obtain ⟨F, rfl⟩ : ∃ m, F = m + 1 := ⟨F - 1, by omega⟩
      rw [impl_readBatch.go, if_neg h0] at hG
      obtain ⟨k1, k2⟩ := impl_readChange.all A c l wr (HC1.out _ (Kd.C_below HC.out HB1.out)) hlc hzn HA1.out
      cases hgo : impl_readChange.go l with
      | none =>
        have HK := Aside0.mk (k1 hgo)
        rw [hgo] at hG
        have hr := HR.out
        rw [← hG] at hr
        injection hr with hr
        injection hr with e1 e2
        subst e1 e2
        clear k1 k2 hgo hG hF HF HG HR HALL h0
        go_wp2_with ((with_reducible refine (HK.out).mono ?_); rintro e w3 ⟨⟨s0, s1, b, rfl⟩, hb⟩; have HB3 := Aside0.mk (below_step HB1.out hb); clear hb)
        go_ret2
        exact ⟨_, rfl, Kd.R_nil _ _ _ _ _, by apply below_alloc; exact HB3.out⟩
      | some p =>
        obtain ⟨s, r⟩ := p
        have HK := Aside0.mk (k2 s r hgo)
        have HSH := Aside0.mk (impl_readChange.shorter hgo hzn)
        have HRG := Aside0.mk (impl_readChange.range hgo HA1.out)
        rw [hgo] at hG
        have hG2 : (if out.length = 30 then none else if impl_readBatch.ok s = true then impl_readBatch.go F r (out ++ [s]) else none) = R := hG
        obtain ⟨A4, c4, rfl⟩ := Kd.R_slice HO.out
        have HI := Aside0.mk (fun W => impl_isChange.calls s.f0 s.f1 s.f2 _ W (impl_readBatch.lit_some s))
        clear k1 k2 hgo hG HG HALL h0
        obtain ⟨s0, s1, s2⟩ := s
        by_cases h30 : out.length = 30
        · rw [if_pos h30] at hG2
          have e30 : ((out.length : Int) == 30) = true := by simp; omega
          have hr := HR.out
          rw [← hG2] at hr
          injection hr with hr
          injection hr with e1 e2
          subst e1 e2
          clear hG2 hF HF HR h30
          go_wp2_with ((with_reducible refine (HK.out).mono ?_); rintro e w3 ⟨A', c', rfl, a1_, a2_, hb⟩; have HB3 := Aside0.mk (below_step HB1.out hb); clear hb a1_ a2_)
          go_ret2
          exact ⟨_, rfl, Kd.R_nil _ _ _ _ _, by apply below_alloc; exact HB3.out⟩
        · rw [if_neg h30] at hG2
          have e30 : ((out.length : Int) == 30) = false := by simp; omega
          cases hok : impl_readBatch.ok ⟨s0, s1, s2⟩ with
          | false =>
            rw [hok] at hG2 HI
            rw [if_neg (by decide)] at hG2
            have hr := HR.out
            rw [← hG2] at hr
            injection hr with hr
            injection hr with e1 e2
            subst e1 e2
            clear hG2 hF HF HR h30 hok
            go_wp2_with (first
              | ((with_reducible refine (HK.out).mono ?_); rintro e w3 ⟨A', c', rfl, a1_, a2_, hb⟩; have HB3 := Aside0.mk (below_step HB1.out hb); clear hb a1_ a2_)
              | ((with_reducible refine (HI.out _).mono ?_); rintro e w4 ⟨rfl, hb⟩; have HB4 := Aside0.mk (below_step (below_alloc HB3.out _) hb); clear hb))
            go_ret2
            exact ⟨_, rfl, Kd.R_nil _ _ _ _ _, HB4.out⟩
          | true =>
            rw [hok] at hG2 HI
            rw [if_pos rfl] at hG2
            have HG2 := Aside0.mk hG2
            have HF2 := Aside0.mk (show r.length < F by have := HSH.out; omega)
            have h30b : out.length ≤ 29 := by omega
            clear hG2 hF HF HR h30 hok
            go_wp2_with (first
              | ((with_reducible refine (HK.out).mono ?_); rintro e w3 ⟨A', c', rfl, a1_, a2_, hb⟩; have HB3 := Aside0.mk (below_step HB1.out hb); have HC3 := Aside0.mk a1_; have Q3 := Aside0.mk a2_; have HO3 := Aside0.mk (Kd.R_below HO.out hb); clear hb a1_ a2_)
              | ((with_reducible refine (HI.out _).mono ?_); rintro e w4 ⟨rfl, hb⟩; have HB4 := Aside0.mk (below_step (below_alloc HB3.out _) hb); have HO4 := Aside0.mk (Kd.R_below (Kd.R_alloc HO3.out _) hb); have hx0 : w4.cell? ⟨w3.heap.size, 0, none⟩ = some (.string s0) := (hb.cell (p := ⟨w3.heap.size, 0, none⟩) (by simp)).trans (by go_simp); have hx1 : w4.cell? ⟨w3.heap.size, 1, none⟩ = some (.string s1) := (hb.cell (p := ⟨w3.heap.size, 1, none⟩) (by simp)).trans (by go_simp); have hx2 : w4.cell? ⟨w3.heap.size, 2, none⟩ = some (.bool s2) := (hb.cell (p := ⟨w3.heap.size, 2, none⟩) (by simp)).trans (by go_simp); clear hb)
              | ((with_reducible refine gate_builtin (b := .append) (xs := #[.tmp 29, .tmp 31]) rfl ?_); at_builtin; refine Kd.R_append k79 (w0 := w) w.heap.size rfl (.tmp 29) (.tmp 31) 61 79 (.agg #[(.string ⟨#[]⟩), (.string ⟨#[]⟩), (.bool false)]) 40 rfl Try.underlying61 info79 rfl (by decide) (by omega) (.slice A4 out.length c4) out (⟨s0, s1, s2⟩ : S79) [.string s0, .string s1, .bool s2] (fun _ => True) (fun _ => False) rfl (by first | (go_simp; done) | (go_simp; rfl)) ?aP (fun _ hk => hk.elim) ?aF ?aO ?aB ?aS ?aL ?_; (case aP => exact k79_mkM _ _ _ (⟨s0, s1, s2⟩ : S79)); (case aF => exact (fun _ _ => trivial)); (case aO => exact HO4.out); (case aB => exact HB4.out); (case aS => exact below_size HB4.out); (case aL => omega); intro v5 w5 ho hb hg_ hat; have HO5 := Aside0.mk ho; have HB5 := Aside0.mk hb; have HG5 := Aside0.mk hg_; clear ho hb hg_ hat))
            go_roundg (r.length)
            case measure => have := HSH.out; omega
            case rel => exact ⟨A', c', r, out ++ [⟨s0, s1, s2⟩], F, Nat.le_refl _, by have := HSH.out; omega, Q3.out, rfl, ⟨fun W hW => HC3.out _ (HC1.out _ hW)⟩, HRG, ⟨⟨HF2.out, HG2.out⟩⟩, by rw [List.length_append]; simp; omega, HO5, HB5⟩
def impl_Pair_55.f (l0 : List (S51)) : Option (List (S51)) := if l0.length < 4398046511104 then some l0 else none
set_option maxHeartbeats 4000000 in
set_option maxRecDepth 100000 in
theorem impl_Pair_55.calls (A0 : Option Addr) (c0 : Nat) (l0 : List (S51)) (r : List (S51)) (w : World) (hr0 : Kd.C k51 w A0 l0.length l0) (hc0 : l0.length ≤ c0) (h : impl_Pair_55.f l0 = some r) :
    Calls Try.prog 55 #[.slice A0 l0.length c0] w fun e w' => ∃ v0_ : Value, e = .returned (v0_) ∧ Kd.R k51 51 w' w.heap.size (fun _ => True) v0_ r ∧ Below w.heap.size w w' := by
  unfold impl_Pair_55.f at h
  have hs : l0.length < 4398046511104 := Decidable.byContradiction fun hs => by rw [if_neg hs] at h; cases h
  rw [if_pos hs] at h
  obtain rfl := Option.some.inj h
  clear h
  have q22 : ∀ (W : World) (a : Option Addr) (n c n' c' : Nat), (binOp .eql 27 (.slice a n c) (.slice none n' c')).run Try.prog W = .ok (.bool a.isNone) W := fun W a n c n' c' => Lib.run_eql_slice_nil W _ _ a n c n' c' Try.underlying27
  have infoE : (Try.prog.info? 51).map (fun i => (i.zero, i.size, i.bytes)) = some (some (.agg #[.string ⟨#[]⟩, .string ⟨#[]⟩]), 2, 32) := by kernel_rfl
  have INFO := Aside0.mk infoE
  clear infoE
  have HR0 := Aside0.mk hr0
  have HB := Aside0.mk (Below.refl w.heap.size w)
  have LM := Aside0.mk hs
  cases A0 with
  | none =>
    have hz : l0 = [] := by
      have h2 := hr0.2.2
      cases l0 with
      | nil => rfl
      | cons x xs => obtain ⟨ad, e, _⟩ := h2 (by simp); cases e
    subst hz
    clear hr0 hc0 hs
    go_enter Try.func55, Try.ntmps55
    go_wp2
    go_ret
    exact ⟨_, rfl, Kd.R_nil _ _ _ _ _, HB.out⟩
  | some ad =>
    have Ny := Aside0.mk (show l0 = [] ++ l0 from rfl)
    clear hr0 hs
    go_enter Try.func55, Try.ntmps55
    go_wp2_with (first
      | ((with_reducible refine gate_dst (N := 5) rfl ?_); refine Kd.R_lit k51 _ 51 ?hg (N := 5) ?hd (xs := []) (inner := []) (ok := fun _ => True) (okp := fun _ => True) ?hr ?hp (fun _ hk => hk) trivial (Below.refl _ _) (Nat.le_refl _) (by simp) ?_; (case hd => rfl); (case hg => rfl); (case hr => first | (go_simp; done) | (go_simp; rfl)); (case hp => exact Reps.none _ _); intro v126 w5 ho6 hb hg_ hnew_; clear hg_ hnew_; have n0_ := Aside0.mk (Kd.R_lower ho6 (below_size HB.out)); have n1_ := Aside0.mk (below_step HB.out hb); clear HB; have HO127 := n0_; have HB := n1_; clear n0_ n1_; clear hb ho6)
      | ((with_reducible refine gate_builtin (b := .append) (xs := #[.tmp 5, .tmp 6]) rfl ?_); at_builtin; refine Kd.R_append_rows k51 (w0 := w) w.heap.size rfl (.tmp 5) (.tmp 6) 27 51 (.agg #[.string ⟨#[]⟩, .string ⟨#[]⟩]) 32 rfl Try.underlying27 INFO.out rfl (by decide) (by decide) v126 [] l0 _ _ _ (fun _ => True) (fun _ => False) rfl rfl ?aO ?aR (fun _ _ h => h) (fun _ h => h.elim) ?aF ?aB ?aS ?aL ?_; (case aR => exact (Kd.C_below HR0.out HB.out)); (case aB => exact HB.out); (case aF => exact (fun _ _ => trivial)); (case aO => exact HO127.out); (case aS => exact (below_size HB.out)); (case aL => have := LM.out; simp only [List.length_nil, Nat.zero_add]; omega); intro v129 w7 ho hb hg hat; rw [← Ny.out] at ho; have n0_ := Aside0.mk (hb); have n1_ := Aside0.mk (ho); clear HB; clear HO127; have HB := n0_; have HO130 := n1_; clear n0_ n1_; clear ho hb hg hat))
    go_ret
    exact ⟨_, rfl, Kd.R_mono HO130.out (fun _ hk => trivial), HB.out⟩
set_option maxHeartbeats 4000000 in
set_option maxRecDepth 100000 in
theorem impl_Pair_string.calls (A : Option Addr) (c : Nat) (xs : List S51) (key : ByteArray) (w : World) (hC : Kd.C k51 w A xs.length xs) (hn : xs.length ≤ 100000)
    (hmono : ∀ a b, a ≤ b → b < xs.length → Lib.compareBytes (xs.getD b z51).f0.data.toList key.data.toList < 0 → Lib.compareBytes (xs.getD a z51).f0.data.toList key.data.toList < 0) :
    Calls Try.prog 56 #[.slice A xs.length c, .string key, .func (.func 57) #[] #[]] w fun e w' => ∃ r : Nat, e = .returned (.tuple #[.int .i64 (r : Int), .bool (decide (r < xs.length) && decide (Lib.compareBytes (xs.getD r z51).f0.data.toList key.data.toList = 0))]) ∧ r ≤ xs.length ∧ (∀ j, j < r → Lib.compareBytes (xs.getD j z51).f0.data.toList key.data.toList < 0) ∧ (∀ j, r ≤ j → j < xs.length → ¬ Lib.compareBytes (xs.getD j z51).f0.data.toList key.data.toList < 0) ∧ Below w.heap.size w w' := by
  have hu := Try.underlying51
  have HCALL := Aside0.mk (fun (x0 x1 : ByteArray) W => impl_apply_1.calls ⟨x0, x1⟩ key W)
  have HM := Aside0.mk hmono
  have HC := Aside0.mk hC
  have HB := Aside0.mk (Below.refl w.heap.size w)
  clear hmono hC
  go_enter Try.func56, Try.ntmps56
  go_wp2
  go_loopg [9, 10] xs.length (fun gg s9 s10 wr => ∃ i j : Nat, i ≤ j ∧ j ≤ xs.length ∧ j - i ≤ gg ∧ s9 = .int .i64 i ∧ s10 = .int .i64 j ∧ Aside0 (∀ q, q < i → Lib.compareBytes (xs.getD q z51).f0.data.toList key.data.toList < 0) ∧ Aside0 (∀ q, j ≤ q → q < xs.length → ¬ Lib.compareBytes (xs.getD q z51).f0.data.toList key.data.toList < 0) ∧ Aside0 (Below w.heap.size w wr))
  case atStart => exact ⟨0, xs.length, Nat.zero_le _, Nat.le_refl _, by omega, rfl, rfl, ⟨fun q hq => absurd hq (Nat.not_lt_zero _)⟩, ⟨fun q h1 h2 => absurd h2 (by omega)⟩, HB⟩
  case round =>
    obtain ⟨i, j, hij, hj, hg, rfl, rfl, HI, HJ, HB1⟩ := hrel
    by_cases hlt : i < j
    · have hltz : (i : Int) < (j : Int) := by omega
      obtain ⟨m, hm⟩ : ∃ m, m = (i + j) / 2 := ⟨_, rfl⟩
      have hmx : m < xs.length := by omega
      have hmi : ((i : Int) + (j : Int)) / 2 = (m : Int) := by omega
      have him : i ≤ m := by omega
      have hmj : m < j := by omega
      clear hm
      have hmz : (m : Int) < (xs.length : Int) := by omega
      have HC1 := Aside0.mk (Kd.C_below HC.out HB1.out)
      obtain ⟨ad, e1, hx0, hx1⟩ := at_T51 HC1.out (m : Int) (by omega) (by omega)
      cases e1
      have hrd : rd_T51 xs (m : Int) = xs.getD m z51 := by rw [rd_T51, Int.toNat_natCast]
      simp only [Int.toNat_natCast, hrd] at hx0 hx1
      obtain ⟨x, hx⟩ : ∃ x, x = xs.getD m z51 := ⟨_, rfl⟩
      rw [← hx] at hx0 hx1
      have hcall := HCALL.out x.f0 x.f1
      obtain ⟨cv, hcv⟩ : ∃ cv, cv = Lib.compareBytes x.f0.data.toList key.data.toList := ⟨_, rfl⟩
      rw [← hcv] at hcall
      have HK := Aside0.mk hcall
      have hcq : Lib.compareBytes (xs.getD m z51).f0.data.toList key.data.toList = cv := by rw [← hx, hcv]
      have HQ := Aside0.mk hcq
      obtain ⟨x0, x1⟩ := x
      clear hrd hcall hcv hcq hx
      by_cases hc : cv < 0
      · have HI2 := Aside0.mk (show ∀ q, q < m + 1 → Lib.compareBytes (xs.getD q z51).f0.data.toList key.data.toList < 0 from fun q hq => HM.out q m (by omega) hmx (by rw [HQ.out]; exact hc))
        have hw1 : IntKind.i64.wrap ((m : Int) + 1) = (m : Int) + 1 := by rw [IntKind.wrap_i64]; omega
        go_wp2_with ((with_reducible refine (HK.out _).mono ?_); rintro e w' ⟨rfl, hb⟩; have HB2 := Aside0.mk (below_step HB1.out hb); clear hb)
        go_roundg (j - (m + 1))
        case measure => omega
        case rel => exact ⟨m + 1, j, by omega, hj, Nat.le_refl _, by go_num, by go_num, HI2, HJ, HB2⟩
      · have HJ2 := Aside0.mk (show ∀ q, m ≤ q → q < xs.length → ¬ Lib.compareBytes (xs.getD q z51).f0.data.toList key.data.toList < 0 from fun q hq hq2 hcc => hc (by rw [← HQ.out]; exact HM.out m q hq hq2 hcc))
        go_wp2_with ((with_reducible refine (HK.out _).mono ?_); rintro e w' ⟨rfl, hb⟩; have HB2 := Aside0.mk (below_step HB1.out hb); clear hb)
        go_roundg (m - i)
        case measure => omega
        case rel => exact ⟨i, m, him, by omega, Nat.le_refl _, by go_num, by go_num, HI, HJ2, HB2⟩
    · have hltz : ¬ (i : Int) < (j : Int) := by omega
      obtain rfl : i = j := by omega
      by_cases hin : i < xs.length
      · have hinz : (i : Int) < (xs.length : Int) := by omega
        have HC1 := Aside0.mk (Kd.C_below HC.out HB1.out)
        obtain ⟨ad, e1, hx0, hx1⟩ := at_T51 HC1.out (i : Int) (by omega) (by omega)
        cases e1
        have hrd : rd_T51 xs (i : Int) = xs.getD i z51 := by rw [rd_T51, Int.toNat_natCast]
        simp only [Int.toNat_natCast, hrd] at hx0 hx1
        obtain ⟨x, hx⟩ : ∃ x, x = xs.getD i z51 := ⟨_, rfl⟩
        rw [← hx] at hx0 hx1
        have hcall := HCALL.out x.f0 x.f1
        obtain ⟨cv, hcv⟩ : ∃ cv, cv = Lib.compareBytes x.f0.data.toList key.data.toList := ⟨_, rfl⟩
        rw [← hcv] at hcall
        have HK := Aside0.mk hcall
        have hcq : Lib.compareBytes (xs.getD i z51).f0.data.toList key.data.toList = cv := by rw [← hx, hcv]
        have HQ := Aside0.mk hcq
        obtain ⟨x0, x1⟩ := x
        clear hrd hcall hcv hcq hx
        go_wp2_with ((with_reducible refine (HK.out _).mono ?_); rintro e w' ⟨rfl, hb⟩; have HB2 := Aside0.mk (below_step HB1.out hb); clear hb)
        go_ret2
        refine ⟨i, ?_, hj, HI.out, HJ.out, HB2.out⟩
        show Ending.returned (.tuple #[.int .i64 (i : Int), .bool (cv == 0)]) = _
        have hq := HQ.out
        rw [List.getD_eq_getElem?_getD] at hq
        have e2 : (decide (i < xs.length) && decide (Lib.compareBytes ((xs[i]?).getD z51).f0.data.toList key.data.toList = 0)) = (cv == 0) := by
          rw [hq, decide_eq_true hin, Bool.true_and]; rfl
        rw [← e2]
      · have hinz : ¬ (i : Int) < (xs.length : Int) := by omega
        go_wp2
        go_ret2
        refine ⟨i, ?_, hj, HI.out, HJ.out, HB1.out⟩
        rw [decide_eq_false hin, Bool.false_and]
        rfl
theorem impl_Pair_59.flat : Ythacgkafdjnppaa.OpenFlat.Flat k51 (fun x : S51 => [.string x.f0, .string x.f1]) :=
  ⟨fun _ _ _ _ _ => ⟨fun h => k51_openM h, fun h => by rw [h]; exact k51_mkM _ _ _ _⟩, fun _ => rfl, fun _ v hv => by simp at hv; rcases hv with rfl | rfl <;> rfl⟩
set_option maxHeartbeats 4000000 in
set_option maxRecDepth 100000 in
theorem impl_Pair_59.calls (v : Value) (xs : List S51) (i : Nat) (w0 w : World) (hB : Below w0.heap.size w0 w) (ho : Kd.R k51 51 w w0.heap.size (fun _ => True) v xs) (hi : i < xs.length) :
    Calls Try.prog 59 #[v, .int .i64 (i : Int), .int .i64 ((i : Int) + 1)] w fun e w' => ∃ v', e = .returned v' ∧ Kd.R k51 51 w' w0.heap.size (fun _ => True) v' (xs.eraseIdx i) ∧ Below w0.heap.size w0 w' ∧ w.grownBy w' v.ownBlock := by
  have hus := Try.underlying27
  obtain ⟨g, c, rfl, hg1, hg2, _⟩ := Kd.R_form ho (by omega)
  have hlc : xs.length ≤ c := (Kd.R_reads' ho).2.1
  have hlen : xs.length ≤ 9223372036854775807 := (Kd.R_reads' ho).2.2.2.1
  have hc3 := fun W => OpenFlat.cut_lhm (P := Try.prog) 27 51 rfl rfl (sz := 2) rfl g xs.length c W .i64 .i64 .i64 i (i + 1) xs.length (i : Int) ((i : Int) + 1) (xs.length : Int) rfl (by omega) rfl (by omega) (by omega) hlc
  have hne : ((i : Int) == (i : Int) + 1) = false := by simp; omega
  have hne2 : ¬ ((i : Int) = (i : Int) + 1) := by omega
  have hcA := fun W => OpenFlat.cut_h (P := Try.prog) 27 51 rfl rfl (sz := 2) rfl g xs.length c W .i64 i (i : Int) rfl (by omega)
  have hcB := fun W => OpenFlat.cut_l (P := Try.prog) 27 51 rfl rfl (sz := 2) rfl g xs.length c W .i64 (i + 1) ((i : Int) + 1) (by omega) (by omega)
  obtain ⟨A, hA⟩ : ∃ A, OpenFlat.pl g c (i + 1) 2 = A := ⟨_, rfl⟩
  rw [hA] at hcB
  have HA := Aside0.mk hA
  obtain ⟨A3, hA3⟩ : ∃ A, OpenFlat.pl g xs.length i 2 = A := ⟨_, rfl⟩
  rw [hA3] at hc3
  have HO := Aside0.mk ho
  have HB := Aside0.mk hB
  have HG := Aside0.mk hg1
  clear ho hB hA hA3 hg1 hg2
  go_enter Try.func59, Try.ntmps59
  go_wp2
  refine wp_region_still_tail 6 (by kernel_rfl) (by kernel_rfl) ?_
  simp only [List.take_succ_cons, List.take_zero, List.drop_succ_cons, List.drop_zero]
  still_step
  still_step
  still_step
  still_step
  still_step
  still_step
  refine wpStill_nil ?_
  obtain ⟨W1, hW1⟩ : ∃ W1, W1 = w.drew := ⟨_, rfl⟩
  have HO1 := Aside0.mk (show Kd.R k51 51 W1 w0.heap.size (fun _ => True) (.slice (some ⟨g, 0, none⟩) xs.length c) xs by rw [hW1]; exact Kd.R_drew HO.out)
  have HB1 := Aside0.mk (show Below w0.heap.size w0 W1 by rw [hW1]; exact below_drew1 HB.out)
  rw [show ({ heap := w.heap, tape := w.tape, drawn := w.drawn + 1, os := w.os, output := w.output } : World) = w.drew from rfl, ← hW1]
  have HD := Aside0.mk (show w.grownBy W1 (some g) by rw [hW1]; exact ⟨rfl, rfl, rfl, Nat.le_refl _, fun _ _ _ => rfl⟩)
  clear hW1
  refine Kd.R_delete k51 (w0 := w0) w0.heap.size rfl (.tmp 22) (.tmp 25) 27 51 rfl Try.underlying27 rfl (g := g) (n := xs.length) (c := c) (k := i) (c2 := c - (i + 1)) (A := A) rfl rfl ?hA rfl HO1.out hi HB1.out HB1.out.size ?_
  case hA => rw [← HA.out]; unfold OpenFlat.pl; rw [Option.map_some, add_plain]; rfl
  intro w1 ho hb hg
  obtain ⟨n1, hn1⟩ : ∃ n1, xs.length - 1 = n1 := ⟨_, rfl⟩
  rw [hn1] at ho ⊢
  have hx1 : xs.length = n1 + 1 := by omega
  have hcC := fun W => OpenFlat.cut_lh (P := Try.prog) 27 51 rfl rfl (sz := 2) rfl g n1 c W .i64 .i64 n1 xs.length (n1 : Int) (xs.length : Int) rfl rfl (by omega) hlc
  rw [OpenFlat.pl_ne (by omega), show xs.length - n1 = 1 by omega] at hcC
  have hcl : (Builtin.clear_ #[27] 0 #[.slice (some ⟨g, n1 * 2, none⟩) 1 (c - n1)]).run Try.prog w1 = .ok (.tuple #[]) (w1.setCells g (n1 * 2) (OpenRow.zeros [.string ⟨#[]⟩, .string ⟨#[]⟩] 1)) := by
    obtain ⟨_, _, _, _, _, cur, hcur, hcs, _⟩ := OpenFlat.R_view impl_Pair_59.flat ho
    rw [show k51.sz = 2 from rfl] at hcs
    refine OpenRow.run_clear (P := Try.prog) w1 27 51 0 (.agg #[.string ⟨#[]⟩, .string ⟨#[]⟩]) [.string ⟨#[]⟩, .string ⟨#[]⟩] rfl (fun _ => rfl) rfl (by decide) (by intro u hu; simp at hu; subst hu; rfl) g (n1 * 2) 1 (c - n1) (by omega) ?_ ?_
    · intro jj hjj
      rw [show [Value.string ⟨#[]⟩, Value.string ⟨#[]⟩].length = 2 from rfl] at hjj
      simp [World.cell?, hcur, hcs]
      omega
    · intro jj hjj
      exact blk_frozen hcur _
  have HR := Aside0.mk (OpenFlat.R_beyond impl_Pair_59.flat ho (n1 * 2) (OpenRow.zeros [.string ⟨#[]⟩, .string ⟨#[]⟩] 1) (Nat.le_refl _) (by rw [show k51.sz = 2 from rfl, OpenRow.zeros_length, show [Value.string ⟨#[]⟩, Value.string ⟨#[]⟩].length = 2 from rfl]; omega))
  have HB2 := Aside0.mk hb
  have HD2 := Aside0.mk (World.grownBy.trans HD.out (World.grownBy.trans hg HR.out.2))
  clear ho hb hg hn1 hx1
  go_wp2
  go_ret
  exact ⟨_, rfl, HR.out.1, HB2.out.grown HR.out.2 HB2.out.size (fun k hk => by injection hk with hk; rw [← hk]; exact HG.out), HD2.out⟩
set_option maxHeartbeats 4000000 in
set_option maxRecDepth 100000 in
theorem impl_Pair_60.end_ (v : Value) (xs : List S51) (x : S51) (vb : Nat) (w0 w : World) (hB : Below w0.heap.size w0 w) (ho : Kd.R k51 51 w w0.heap.size (fun k => k ≠ vb) v xs) (hn : xs.length ≤ 100000)
    (hx : w.heap[vb]? = some (.cells #[.string x.f0, .string x.f1] 51 (0, 0))) :
    Calls Try.prog 60 #[v, .int .i64 (xs.length : Int), .slice (some ⟨vb, 0, none⟩) 1 1] w fun e w' => ∃ v', e = .returned v' ∧ Kd.R k51 51 w' w0.heap.size (fun _ => True) v' (xs ++ [x]) ∧ Below w0.heap.size w0 w' := by
  have hus := Try.underlying27
  have hC := OpenFlat.C_box (e := 51) impl_Pair_59.flat x hx
  have HC := Aside0.mk hC
  have HO := Aside0.mk (Kd.R_mono (ok' := fun _ => True) ho (fun _ _ => trivial))
  have HB := Aside0.mk hB
  have hr1 : ¬ ((1 : Int) == 0) = true := by decide
  rcases OpenFlat.R_cases (enc := fun x : S51 => [.string x.f0, .string x.f1]) ho with ⟨rfl, rfl⟩ | ⟨g, c, rfl⟩
  · clear hC ho hB hx
    go_enter Try.func60, Try.ntmps60
    go_wp2_with ((with_reducible refine gate_builtin (b := .append) (xs := #[.tmp 23, .tmp 24]) rfl ?_); at_builtin; refine Kd.R_append_rows k51 (w0 := w0) w0.heap.size rfl (.tmp 23) (.tmp 24) 27 51 (.agg #[(.string ⟨#[]⟩), (.string ⟨#[]⟩)]) 32 rfl Try.underlying27 info51 rfl (by decide) (by decide) (.slice none 0 0) [] [x] (some ⟨vb, 0, none⟩) 1 1 (fun _ => True) (fun _ => False) rfl rfl HO.out HC.out (fun y cs h => by rw [k51_open h]; exact k51_mkM _ _ _ _) (fun _ h => h.elim) (fun _ _ => trivial) HB.out HB.out.size (by simp) ?_; intro v1 w1 h1 h2 h3 h4; have HO1 := Aside0.mk h1; have HB1 := Aside0.mk h2; clear h1 h2 h3 h4)
    go_ret
    exact ⟨_, rfl, HO1.out, HB1.out⟩
  · have hlc : xs.length ≤ c := (Kd.R_reads' ho).2.1
    have hc0 := fun W => OpenFlat.cut_l (P := Try.prog) 27 51 rfl rfl (sz := 2) rfl g xs.length c W .i64 xs.length (xs.length : Int) rfl (Nat.le_refl _)
    obtain ⟨A, hA⟩ : ∃ A, OpenFlat.pl g c xs.length 2 = A := ⟨_, rfl⟩
    rw [hA] at hc0
    clear hC ho hB hx hA
    go_enter Try.func60, Try.ntmps60
    go_wp2_with ((with_reducible refine gate_builtin (b := .append) (xs := #[.tmp 23, .tmp 24]) rfl ?_); at_builtin; refine Kd.R_append_rows k51 (w0 := w0) w0.heap.size rfl (.tmp 23) (.tmp 24) 27 51 (.agg #[(.string ⟨#[]⟩), (.string ⟨#[]⟩)]) 32 rfl Try.underlying27 info51 rfl (by decide) (by decide) (.slice (some ⟨g, 0, none⟩) xs.length c) xs [x] (some ⟨vb, 0, none⟩) 1 1 (fun _ => True) (fun _ => False) rfl rfl HO.out HC.out (fun y cs h => by rw [k51_open h]; exact k51_mkM _ _ _ _) (fun _ h => h.elim) (fun _ _ => trivial) HB.out HB.out.size (by omega) ?_; intro v1 w1 h1 h2 h3 h4; have HO1 := Aside0.mk h1; have HB1 := Aside0.mk h2; clear h1 h2 h3 h4)
    go_ret
    exact ⟨_, rfl, HO1.out, HB1.out⟩
set_option maxHeartbeats 4000000 in
set_option maxRecDepth 100000 in
theorem impl_Pair_60.shift (g c : Nat) (xs : List S51) (x : S51) (i vb : Nat) (w0 w : World) (hB : Below w0.heap.size w0 w) (ho : Kd.R k51 51 w w0.heap.size (fun k => k ≠ vb) (.slice (some ⟨g, 0, none⟩) xs.length c) xs) (hi : i < xs.length) (hn : xs.length ≤ 100000) (hroom : xs.length + 1 ≤ c)
    (hx : w.heap[vb]? = some (.cells #[.string x.f0, .string x.f1] 51 (0, 0))) :
    Calls Try.prog 60 #[.slice (some ⟨g, 0, none⟩) xs.length c, .int .i64 (i : Int), .slice (some ⟨vb, 0, none⟩) 1 1] w fun e w' => ∃ v', e = .returned v' ∧ Kd.R k51 51 w' w0.heap.size (fun _ => True) v' (xs.take i ++ x :: xs.drop i) ∧ Below w0.heap.size w0 w' := by
  have hus := Try.underlying27
  obtain ⟨_, hlc, hcm, hbg, hgv, cur, hcur, hcs, hct⟩ := OpenFlat.R_view impl_Pair_59.flat ho
  rw [show k51.sz = 2 from rfl] at hcs hct
  have hc63 : c ≤ 9223372036854775807 := hcm
  have hcl : cur.toList.length = c * 2 := by simpa using hcs
  have hr1 : ¬ ((1 : Int) == 0) = true := by decide
  have hne : ((i : Int) == (xs.length : Int)) = false := by simp; omega
  have hb0 : ¬ ((xs.length : Int) + 1 > (c : Int)) := by omega
  have hb1 : ¬ ((c : Int) < (xs.length : Int) + 1) := by omega
  have hc0 := fun W => OpenFlat.cut_l (P := Try.prog) 27 51 rfl rfl (sz := 2) rfl g xs.length c W .i64 i (i : Int) rfl (by omega)
  have hc1 := fun W => OpenFlat.cut_h (P := Try.prog) 27 51 rfl rfl (sz := 2) rfl g xs.length c W .i64 (xs.length + 1) ((xs.length : Int) + 1) (by omega) hroom
  have hc2 := fun W => OpenFlat.cut_l (P := Try.prog) 27 51 rfl rfl (sz := 2) rfl g (xs.length + 1) c W .i64 (i + 1) ((i : Int) + 1) (by omega) (by omega)
  have hc3 := fun W => OpenFlat.cut_l (P := Try.prog) 27 51 rfl rfl (sz := 2) rfl g (xs.length + 1) c W .i64 i (i : Int) rfl (by omega)
  rw [OpenFlat.pl_ne (by omega)] at hc0 hc2 hc3
  rw [Nat.add_sub_add_right] at hc2
  have hov : ∀ W : World, W.heap[vb]? = some (.cells #[.string x.f0, .string x.f1] 51 (0, 0)) → W.heap[g]? = some (.cells cur 51 (0, 0)) → ∀ lb cb, (callFunc 67 #[.slice (some ⟨vb, 0, none⟩) 1 1, .slice (some ⟨g, (i + 1) * 2, none⟩) lb cb]).run Try.prog W = .ok (.value (.bool false)) W := fun W hvW hgW lb cb => by
    rw [run_callFunc_extern Try.func67 (by kernel_rfl) (by kernel_rfl) (by kernel_rfl) (e := Extern.SlicesOverlaps.overlaps #[27, 27] #[4]) (by kernel_rfl),
      Lib.run_overlaps_apart W 27 4 51 Try.underlying27 2 (fun _ => rfl) ⟨vb, 0, none⟩ ⟨g, (i + 1) * 2, none⟩ 1 1 lb cb (fun h => hgv h.symm) 51 51 2 (c * 2) (by simp [World.shape?, hvW]) (by simp [World.shape?, hgW, hcs]) (by omega) (blk_frozen hvW _) (blk_frozen hvW _)]
    rfl
  have hov0 := hov w hx hcur
  obtain ⟨W1, hW1⟩ : ∃ W1, W1 = w.drew := ⟨_, rfl⟩
  have hx1 : W1.heap[vb]? = some (.cells #[.string x.f0, .string x.f1] 51 (0, 0)) := by rw [hW1]; exact hx
  have hcur1 : W1.heap[g]? = some (.cells cur 51 (0, 0)) := by rw [hW1]; exact hcur
  obtain ⟨zs, hzs⟩ : ∃ zs, zs = (xs.drop i).flatMap (fun x : S51 => [Value.string x.f0, Value.string x.f1]) := ⟨_, rfl⟩
  have hzl : zs.length = (xs.length - i) * 2 := by rw [hzs, OpenFlat.cells_length impl_Pair_59.flat, List.length_drop]; rfl
  have hzd : zs = (cur.toList.take (xs.length * 2)).drop (i * 2) := by rw [hzs, hct]; exact (OpenFlat.cells_drop impl_Pair_59.flat i xs (by omega)).symm
  have hz1 : ∀ v ∈ zs, v.oneCell' = true := by rw [hzs]; exact OpenFlat.cells_one impl_Pair_59.flat _
  have hcpA : (Builtin.copy_ #[27, 27] 3 #[.slice (some ⟨g, (i + 1) * 2, none⟩) (xs.length - i) (c - (i + 1)), .slice (some ⟨g, i * 2, none⟩) (xs.length + 1 - i) (c - i)]).run Try.prog W1 = .ok (goInt (xs.length - i : Nat)) (W1.setCells g ((i + 1) * 2) zs) :=
    OpenFlat.run_copy_sized W1 _ _ _ 51 2 g ((i + 1) * 2) _ _ ⟨g, i * 2, none⟩ _ _ zs Try.underlying27 rfl (by decide) (xs.length - i) (by simp only [Nat.min_def]; split <;> omega) hzl
      (fun j v hj => by
        rw [add_at, cell_of_row W1 g _ cur 51 (0, 0) hcur1, ← Array.getElem?_toList, ← hj, hzd, List.getElem?_drop, List.getElem?_take, if_pos (by have := (List.getElem?_eq_some_iff.1 hj).1; omega)])
      (fun j hj => by rw [cell_of_row W1 g _ cur 51 (0, 0) hcur1]; simp; omega) (fun j hj => blk_frozen hcur1 _) hz1
  obtain ⟨W2, hW2⟩ : ∃ W2, W2 = W1.setCells g ((i + 1) * 2) zs := ⟨_, rfl⟩
  rw [← hW2] at hcpA
  obtain ⟨cur2, hcur2, hs2, _⟩ := setCells_row zs ((i + 1) * 2) W1 cur hcur1 (by omega)
  rw [← hW2] at hcur2
  have hx2 : W2.heap[vb]? = some (.cells #[.string x.f0, .string x.f1] 51 (0, 0)) := by rw [hW2, setCells_far _ _ vb (fun h => hgv h.symm)]; exact hx1
  have hcpB : (Builtin.copy_ #[27, 27] 3 #[.slice (some ⟨g, i * 2, none⟩) (xs.length + 1 - i) (c - i), .slice (some ⟨vb, 0, none⟩) 1 1]).run Try.prog W2 = .ok (goInt (1 : Nat)) (W2.setCells g (i * 2) [.string x.f0, .string x.f1]) :=
    OpenFlat.run_copy_sized W2 _ _ _ 51 2 g (i * 2) _ _ ⟨vb, 0, none⟩ _ _ [.string x.f0, .string x.f1] Try.underlying27 rfl (by decide) 1 (by simp only [Nat.min_def]; split <;> omega) rfl
      (fun j v hj => by rw [add_plain, cell_of_row W2 vb _ _ 51 (0, 0) hx2, ← Array.getElem?_toList]; exact hj)
      (fun j hj => by rw [cell_of_row W2 g _ cur2 51 (0, 0) hcur2]; simp at hj ⊢; omega) (fun j hj => blk_frozen hcur2 _) (by intro v hv; simp at hv; rcases hv with rfl | rfl <;> rfl)
  obtain ⟨W3, hW3⟩ : ∃ W3, W3 = W2.setCells g (i * 2) [.string x.f0, .string x.f1] := ⟨_, rfl⟩
  rw [← hW3] at hcpB
  have hfin := OpenFlat.R_lay (W := W1) (base := w0.heap.size) (ok := fun k => k ≠ vb) impl_Pair_59.flat x (xs.take i) (xs.drop i) (i := i) (n := xs.length + 1) (c := c) (by simp; omega) (by simp; omega) hroom hcm hbg hgv hcur1 hcs (by
    rw [show k51.sz = 2 from rfl, ← OpenFlat.cells_take impl_Pair_59.flat i xs (by omega), ← hct, List.take_take]; congr 1; show i * 2 = min (i * 2) (xs.length * 2); omega)
  rw [show k51.sz = 2 from rfl, ← hzs, ← hW2, ← hW3] at hfin
  have HF := Aside0.mk hfin
  have HB := Aside0.mk (show Below w0.heap.size w0 W1 by rw [hW1]; exact below_drew1 hB)
  have HG := Aside0.mk hbg
  have HW1 := Aside0.mk hW1
  have HA := Aside0.mk hcpA
  have HBc := Aside0.mk hcpB
  clear ho hx hcur hcs hct hcl hov hx1 hcur1 hzs hzl hzd hz1 hW2 hcur2 hs2 hx2 hW3 hfin hB hbg hW1 hcpA hcpB
  go_enter Try.func60, Try.ntmps60
  go_wp2_with (simp only [hov0])
  have hwr : IntKind.i64.wrap ((i : Int) + 1) = (i : Int) + 1 := by rw [IntKind.wrap_i64]; omega
  refine wp_region_still_tail 8 (by kernel_rfl) (by kernel_rfl) ?_
  simp only [List.take_succ_cons, List.take_zero, List.drop_succ_cons, List.drop_zero]
  still_step
  still_step
  still_step
  refine wpStill_step (fun K hK => ?_)
  go_simp
  refine hK _ ?_
  clear hK K
  still_step
  still_step
  still_step
  still_step
  refine wpStill_nil ?_
  rw [show ({ heap := w.heap, tape := w.tape, drawn := w.drawn + 1, os := w.os, output := w.output } : World) = w.drew from rfl, ← HW1.out]
  refine OpenFlat.wpList_copy_run _ rfl (.tmp 73) (.tmp 76) 27 27 rfl _ _ rfl rfl HA.out ?_
  have hB9 := HBc.out
  go_wp2
  go_ret
  exact ⟨_, rfl, Kd.R_mono HF.out.1 (fun _ _ => trivial), HB.out.grown HF.out.2 HB.out.size (fun k hk => by injection hk with hk; rw [← hk]; exact HG.out)⟩
set_option maxHeartbeats 4000000 in
set_option maxRecDepth 100000 in
theorem impl_Pair_60.grow (g c : Nat) (xs : List S51) (x : S51) (i vb : Nat) (w0 w : World) (hB : Below w0.heap.size w0 w) (ho : Kd.R k51 51 w w0.heap.size (fun k => k ≠ vb) (.slice (some ⟨g, 0, none⟩) xs.length c) xs) (hi : i < xs.length) (hn : xs.length ≤ 100000) (hroom : c < xs.length + 1)
    (hx : w.heap[vb]? = some (.cells #[.string x.f0, .string x.f1] 51 (0, 0))) :
    Calls Try.prog 60 #[.slice (some ⟨g, 0, none⟩) xs.length c, .int .i64 (i : Int), .slice (some ⟨vb, 0, none⟩) 1 1] w fun e w' => ∃ v', e = .returned v' ∧ Kd.R k51 51 w' w0.heap.size (fun _ => True) v' (xs.take i ++ x :: xs.drop i) ∧ Below w0.heap.size w0 w' := by
  have hus := Try.underlying27
  obtain ⟨_, hlc, hcm, hbg, hgv, cur, hcur, hcs, hct⟩ := OpenFlat.R_view impl_Pair_59.flat ho
  rw [show k51.sz = 2 from rfl] at hcs hct
  have hc63 : c ≤ 9223372036854775807 := hcm
  have hcl : cur.toList.length = c * 2 := by simpa using hcs
  have hr1 : ¬ ((1 : Int) == 0) = true := by decide
  have hne : ((i : Int) == (xs.length : Int)) = false := by simp; omega
  have hb0 : ((xs.length : Int) + 1 > (c : Int)) := by omega
  have hb1 : ((c : Int) < (xs.length : Int) + 1) := by omega
  have hgw : g < w.heap.size := blk_lt hcur
  have hvw : vb < w.heap.size := blk_lt hx
  obtain ⟨i0, hi0, hii⟩ := Option.map_eq_some_iff.1 info51
  simp only [Prod.mk.injEq] at hii
  obtain ⟨hz0, hzs0, hzb⟩ := hii
  obtain ⟨G, hG⟩ : ∃ G, G = grownCap w (xs.length + 1) c 51 := ⟨_, rfl⟩
  have hGn : xs.length + 1 ≤ G := by rw [hG]; exact grownCap_ge w _ _ _
  have hGm : G ≤ maxLen := by rw [hG]; exact grownCap_le_maxLen w _ _ _ (by unfold maxLen; omega)
  have hG63 : G ≤ 9223372036854775807 := hGm
  obtain ⟨ROW, hROW⟩ : ∃ ROW : Array Value, ROW = (cur.toList.take (i * 2)).toArray ++ Builtin.zeroCells (Value.agg #[(.string ⟨#[]⟩), (.string ⟨#[]⟩)]).cells (xs.length + 1 - i) ++ Builtin.zeroCells (Value.agg #[(.string ⟨#[]⟩), (.string ⟨#[]⟩)]).cells (G - (xs.length + 1)) := ⟨_, rfl⟩
  obtain ⟨W1, hW1⟩ : ∃ W1, W1 = w.drew.alloc (.cells ROW 51) := ⟨_, rfl⟩
  have hrz : (Builtin.append_ #[27, 3] 27 #[.slice (some ⟨g, 0, none⟩) i c, .int .i64 ((xs.length : Int) + 1 - (i : Int))]).run Try.prog w = .ok (.slice (some ⟨w.heap.size, 0, none⟩) (xs.length + 1) G) W1 := by
    have hold : (Builtin.firstCells i0.size i (.slice (some ⟨g, 0, none⟩) i c)).run Try.prog w.drew = .ok (cur.toList.take (i * 2)).toArray w.drew := by
      rw [hzs0]
      exact run_firstCells_some w.drew 2 i ⟨g, 0, none⟩ i c (cur.toList.take (i * 2)) (by rw [List.length_take]; omega) (fun j v hj => by
        rw [add_plain, cell_of_row w.drew g _ cur 51 (0, 0) hcur, ← Array.getElem?_toList]
        rw [List.getElem?_take] at hj
        split at hj
        · exact hj
        · cases hj)
    have h := Lib.run_append_grow_zeros w 27 3 27 51 i0 _ .i64 .i64 Try.underlying27 Try.underlying3 hi0 hz0 (some ⟨g, 0, none⟩) i c _ hold (xs.length + 1 - i) (by omega) (by omega) (by omega) (by omega) (by rw [hzb]; omega) (by rw [hzb]; exact growslice_fits (by omega) (by omega))
    rw [show i + (xs.length + 1 - i) = xs.length + 1 by omega, show ((xs.length + 1 - i : Nat) : Int) = (xs.length : Int) + 1 - (i : Int) by omega, ← hG, ← hROW, ← hW1] at h
    exact h
  have hRs : ROW.size = G * 2 := by
    rw [hROW]
    simp [Builtin.zeroCells, Value.cells]
    omega
  have hRt : ROW.toList.take (i * 2) = (xs.take i).flatMap (fun x : S51 => [Value.string x.f0, Value.string x.f1]) := by
    rw [hROW, Array.toList_append, Array.toList_append, List.append_assoc, List.toList_toArray, List.take_append_of_le_length (by rw [List.length_take]; omega), List.take_take, Nat.min_self]
    rw [show i * 2 = min (i * 2) (xs.length * 2) by omega, ← List.take_take, hct]
    exact OpenFlat.cells_take impl_Pair_59.flat i xs (by omega)
  have hrow1 : W1.heap[w.heap.size]? = some (.cells ROW 51 (0, 0)) := by
    rw [hW1]
    show (w.heap.push _)[w.heap.size]? = _
    simp
  have hkeep : ∀ k, k < w.heap.size → W1.heap[k]? = w.heap[k]? := fun k hk => by
    rw [hW1]
    show (w.heap.push _)[k]? = _
    rw [Array.getElem?_push_lt hk, Array.getElem?_eq_getElem hk]
  have hx1 := (hkeep vb hvw).trans hx
  have hcur1 := (hkeep g hgw).trans hcur
  have hc0 := fun W => OpenFlat.cut_l (P := Try.prog) 27 51 rfl rfl (sz := 2) rfl g xs.length c W .i64 i (i : Int) rfl (by omega)
  have hc1 := fun W => OpenFlat.cut_h (P := Try.prog) 27 51 rfl rfl (sz := 2) rfl g xs.length c W .i64 i (i : Int) rfl (by omega)
  have hc2 := fun W => OpenFlat.cut_l (P := Try.prog) 27 51 rfl rfl (sz := 2) rfl w.heap.size (xs.length + 1) G W .i64 (i + 1) ((i : Int) + 1) (by omega) (by omega)
  have hc3 := fun W => OpenFlat.cut_l (P := Try.prog) 27 51 rfl rfl (sz := 2) rfl w.heap.size (xs.length + 1) G W .i64 i (i : Int) rfl (by omega)
  rw [OpenFlat.pl_ne (by omega)] at hc0 hc2 hc3
  rw [Nat.add_sub_add_right] at hc2
  obtain ⟨zs, hzs⟩ : ∃ zs, zs = (xs.drop i).flatMap (fun x : S51 => [Value.string x.f0, Value.string x.f1]) := ⟨_, rfl⟩
  have hzl : zs.length = (xs.length - i) * 2 := by rw [hzs, OpenFlat.cells_length impl_Pair_59.flat, List.length_drop]; rfl
  have hzd : zs = (cur.toList.take (xs.length * 2)).drop (i * 2) := by rw [hzs, hct]; exact (OpenFlat.cells_drop impl_Pair_59.flat i xs (by omega)).symm
  have hz1 : ∀ v ∈ zs, v.oneCell' = true := by rw [hzs]; exact OpenFlat.cells_one impl_Pair_59.flat _
  obtain ⟨gg, hgg⟩ : ∃ gg, gg = w.heap.size := ⟨_, rfl⟩
  rw [← hgg] at hrow1 hc2 hc3 hrz hgw hvw
  have hcpA : (Builtin.copy_ #[27, 27] 3 #[.slice (some ⟨gg, i * 2, none⟩) (xs.length + 1 - i) (G - i), .slice (some ⟨vb, 0, none⟩) 1 1]).run Try.prog W1 = .ok (goInt (1 : Nat)) (W1.setCells gg (i * 2) [.string x.f0, .string x.f1]) :=
    OpenFlat.run_copy_sized W1 _ _ _ 51 2 gg (i * 2) _ _ ⟨vb, 0, none⟩ _ _ [.string x.f0, .string x.f1] Try.underlying27 rfl (by decide) 1 (by simp only [Nat.min_def]; split <;> omega) rfl
      (fun j v hj => by rw [add_plain, cell_of_row W1 vb _ _ 51 (0, 0) hx1, ← Array.getElem?_toList]; exact hj)
      (fun j hj => by rw [cell_of_row W1 gg _ ROW 51 (0, 0) hrow1]; simp at hj ⊢; omega) (fun j hj => blk_frozen hrow1 _) (by intro v hv; simp at hv; rcases hv with rfl | rfl <;> rfl)
  obtain ⟨W2, hW2⟩ : ∃ W2, W2 = W1.setCells gg (i * 2) [.string x.f0, .string x.f1] := ⟨_, rfl⟩
  rw [← hW2] at hcpA
  obtain ⟨row2, hrow2, hs2, _⟩ := setCells_row [.string x.f0, .string x.f1] (i * 2) W1 ROW hrow1 (by simp; omega)
  rw [← hW2] at hrow2
  have hcur2 : W2.heap[g]? = some (.cells cur 51 (0, 0)) := by rw [hW2, setCells_far _ _ g (by omega)]; exact hcur1
  obtain ⟨W3, hW3⟩ : ∃ W3, W3 = W2.drew := ⟨_, rfl⟩
  have hrow3 : W3.heap[gg]? = some (.cells row2 51 (0, 0)) := by rw [hW3]; exact hrow2
  have hcur3 : W3.heap[g]? = some (.cells cur 51 (0, 0)) := by rw [hW3]; exact hcur2
  have hcpB : (Builtin.copy_ #[27, 27] 3 #[.slice (some ⟨gg, (i + 1) * 2, none⟩) (xs.length - i) (G - (i + 1)), .slice (some ⟨g, i * 2, none⟩) (xs.length - i) (c - i)]).run Try.prog W3 = .ok (goInt (xs.length - i : Nat)) (W3.setCells gg ((i + 1) * 2) zs) :=
    OpenFlat.run_copy_sized W3 _ _ _ 51 2 gg ((i + 1) * 2) _ _ ⟨g, i * 2, none⟩ _ _ zs Try.underlying27 rfl (by decide) (xs.length - i) (by simp only [Nat.min_def]; split <;> omega) hzl
      (fun j v hj => by
        rw [add_at, cell_of_row W3 g _ cur 51 (0, 0) hcur3, ← Array.getElem?_toList, ← hj, hzd, List.getElem?_drop, List.getElem?_take, if_pos (by have := (List.getElem?_eq_some_iff.1 hj).1; omega)])
      (fun j hj => by rw [cell_of_row W3 gg _ row2 51 (0, 0) hrow3]; simp; omega) (fun j hj => blk_frozen hrow3 _) hz1
  obtain ⟨W4, hW4⟩ : ∃ W4, W4 = W3.setCells gg ((i + 1) * 2) zs := ⟨_, rfl⟩
  rw [← hW4] at hcpB
  have hfin := OpenFlat.R_lay2 (W := W1) (base := w0.heap.size) (ok := fun _ => True) impl_Pair_59.flat x (xs.take i) (xs.drop i) (i := i) (n := xs.length + 1) (c := G) (by simp; omega) (by simp; omega) hGn hGm (by rw [hgg]; exact hB.size) trivial hrow1 hRs hRt
  rw [show k51.sz = 2 from rfl, ← hzs, ← hW2] at hfin
  have HB1 := Aside0.mk (show Below w0.heap.size w0 W1 by rw [hW1]; exact below_alloc (below_drew1 hB) _)
  have HF := Aside0.mk (show Kd.R k51 51 W4 w0.heap.size (fun _ => True) (.slice (some ⟨gg, 0, none⟩) (xs.length + 1) G) (xs.take i ++ x :: xs.drop i) by rw [hW4, hW3, ← OpenFlat.drew_setCells]; exact Kd.R_drew hfin.1)
  have HBF := Aside0.mk (show Below w0.heap.size w0 W4 by rw [hW4, hW3, ← OpenFlat.drew_setCells]; exact below_drew1 (HB1.out.grown hfin.2 HB1.out.size (fun k hk => by injection hk with hk; rw [← hk, hgg]; exact hB.size)))
  have HW3 := Aside0.mk hW3
  have HA := Aside0.mk hcpA
  have HBc := Aside0.mk hcpB
  have HRZ := Aside0.mk hrz
  clear hcpA hrz ho hx hcur hcs hct hcl hcur1 hzs hzl hzd hz1 hW2 hcur2 hs2 hW3 hfin hB hbg hW1 hcpB hi0 hz0 hzs0 hzb hG hROW hRs hRt hrow1 hkeep hx1 hrow2 hrow3 hcur3 hW4 hgg hgw hvw
  have hwr : IntKind.i64.wrap ((i : Int) + 1) = (i : Int) + 1 := by rw [IntKind.wrap_i64]; omega
  go_enter Try.func60, Try.ntmps60
  have hcA := HA.out
  go_wp2_with ((with_reducible refine gate_builtin (b := .append) (xs := #[.tmp 34, .tmp 39]) rfl ?_); at_builtin; refine Lib.wpList_append_run _ rfl _ _ _ _ rfl _ _ rfl rfl _ _ HRZ.out ?_)
  refine wp_region_still_tail 8 (by kernel_rfl) (by kernel_rfl) ?_
  simp only [List.take_succ_cons, List.take_zero, List.drop_succ_cons, List.drop_zero]
  still_step
  still_step
  still_step
  refine wpStill_step (fun K hK => ?_)
  go_simp
  refine hK _ ?_
  clear hK K
  still_step
  still_step
  still_step
  still_step
  refine wpStill_nil ?_
  rw [show ({ heap := W2.heap, tape := W2.tape, drawn := W2.drawn + 1, os := W2.os, output := W2.output } : World) = W2.drew from rfl, ← HW3.out]
  refine OpenFlat.wpList_copy_run _ rfl (.tmp 50) (.tmp 53) 27 27 rfl _ _ rfl rfl HBc.out ?_
  go_wp2
  go_ret
  exact ⟨_, rfl, HF.out, HBF.out⟩
set_option maxRecDepth 100000 in
theorem impl_Pair_60.calls (v : Value) (xs : List S51) (x : S51) (i vb : Nat) (w0 w : World) (hB : Below w0.heap.size w0 w) (ho : Kd.R k51 51 w w0.heap.size (fun k => k ≠ vb) v xs) (hi : i ≤ xs.length) (hn : xs.length ≤ 100000)
    (hx : w.heap[vb]? = some (.cells #[.string x.f0, .string x.f1] 51 (0, 0))) :
    Calls Try.prog 60 #[v, .int .i64 (i : Int), .slice (some ⟨vb, 0, none⟩) 1 1] w fun e w' => ∃ v', e = .returned v' ∧ Kd.R k51 51 w' w0.heap.size (fun _ => True) v' (xs.take i ++ x :: xs.drop i) ∧ Below w0.heap.size w0 w' := by
  by_cases c1 : i = xs.length
  · subst c1
    rw [List.take_length, List.drop_length]
    exact impl_Pair_60.end_ v xs x vb w0 w hB ho hn hx
  · rcases OpenFlat.R_cases (enc := fun x : S51 => [.string x.f0, .string x.f1]) ho with ⟨_, rfl⟩ | ⟨g, c, rfl⟩
    · simp at hi c1; omega
    · by_cases c2 : xs.length + 1 ≤ c
      · exact impl_Pair_60.shift g c xs x i vb w0 w hB ho (by omega) hn c2 hx
      · exact impl_Pair_60.grow g c xs x i vb w0 w hB ho (by omega) hn (by omega) hx
abbrev impl_apply.Sorted (xs : List S51) : Prop := xs.Pairwise fun x y => spec_l03Apply.lt x.f0 y.f0 = true
theorem impl_apply.sorted_get {xs : List S51} (h : impl_apply.Sorted xs) (a b : Nat) (hab : a < b) (hb : b < xs.length) : spec_l03Apply.lt (xs.getD a z51).f0 (xs.getD b z51).f0 = true := by
  have := List.pairwise_iff_getElem.1 h a b (by omega) hb hab
  rw [List.getD_eq_getElem?_getD, List.getD_eq_getElem?_getD, List.getElem?_eq_getElem hb, List.getElem?_eq_getElem (by omega)]
  exact this
theorem impl_apply.mono {xs : List S51} (h : impl_apply.Sorted xs) (key : ByteArray) (a b : Nat) (hab : a ≤ b) (hb : b < xs.length) (hk : spec_l03Apply.lt (xs.getD b z51).f0 key = true) : spec_l03Apply.lt (xs.getD a z51).f0 key = true := by
  by_cases e : a = b
  · rw [e]; exact hk
  · exact Ythacgkafdjnppaa.OpenOrd.less_trans _ _ _ (impl_apply.sorted_get h a b (by omega) hb) hk
theorem impl_apply.rest_above {xs : List S51} (h : impl_apply.Sorted xs) (key : ByteArray) : ∀ y ∈ spec_l03Apply.rest xs key, spec_l03Apply.lt key y.f0 = true := by
  intro y hy
  have hp : spec_l03Apply.pos xs key ≤ xs.length := Ythacgkafdjnppaa.OpenOrd.ahead_le _ _
  have key1 : ∀ j, spec_l03Apply.pos xs key < j → j < xs.length → (xs.getD (spec_l03Apply.pos xs key) z51).f0.data.toList = key.data.toList → spec_l03Apply.lt key (xs.getD j z51).f0 = true := fun j h1 h2 h3 => by
    have := impl_apply.sorted_get h _ j h1 h2
    unfold spec_l03Apply.lt at this ⊢
    rw [h3] at this
    exact this
  unfold spec_l03Apply.rest at hy
  by_cases c : spec_l03Apply.hit xs key = true
  · rw [if_pos c] at hy
    simp only [spec_l03Apply.hit, Bool.and_eq_true, decide_eq_true_eq] at c
    obtain ⟨j, hj, rfl⟩ := List.getElem_of_mem hy
    rw [List.length_drop] at hj
    have := key1 (spec_l03Apply.pos xs key + 1 + j) (by omega) (by omega) c.2
    rw [List.getElem_drop]
    rwa [List.getD_eq_getElem?_getD, List.getElem?_eq_getElem (by omega)] at this
  · rw [if_neg c] at hy
    obtain ⟨j, hj, rfl⟩ := List.getElem_of_mem hy
    rw [List.length_drop] at hj
    have hlt : spec_l03Apply.pos xs key < xs.length := by omega
    have hne : (xs.getD (spec_l03Apply.pos xs key) z51).f0.data.toList ≠ key.data.toList := fun he => c (by unfold spec_l03Apply.hit; rw [decide_eq_true hlt, decide_eq_true he]; rfl)
    have h0 := Ythacgkafdjnppaa.OpenOrd.ahead_at (fun x : S51 => spec_l03Apply.lt x.f0 key) z51 xs hlt
    have h1 : spec_l03Apply.lt key (xs.getD (spec_l03Apply.pos xs key) z51).f0 = true := Ythacgkafdjnppaa.OpenOrd.less_total _ _ h0 hne
    have h2 : spec_l03Apply.lt key (xs.getD (spec_l03Apply.pos xs key + j) z51).f0 = true := by
      by_cases e : j = 0
      · rw [e]; exact h1
      · exact Ythacgkafdjnppaa.OpenOrd.less_trans _ _ _ h1 (impl_apply.sorted_get h _ _ (by omega) (by omega))
    rw [List.getElem_drop]
    rwa [List.getD_eq_getElem?_getD, List.getElem?_eq_getElem (by omega)] at h2
theorem impl_apply.take_below (xs : List S51) (key : ByteArray) : ∀ x ∈ xs.take (spec_l03Apply.pos xs key), spec_l03Apply.lt x.f0 key = true := by
  intro x hx
  have hp : spec_l03Apply.pos xs key ≤ xs.length := Ythacgkafdjnppaa.OpenOrd.ahead_le _ _
  obtain ⟨j, hj, rfl⟩ := List.getElem_of_mem hx
  rw [List.length_take] at hj
  have := Ythacgkafdjnppaa.OpenOrd.ahead_lt (fun x : S51 => spec_l03Apply.lt x.f0 key) z51 xs j (by show j < spec_l03Apply.pos xs key; omega)
  rw [List.getElem_take]
  rwa [List.getD_eq_getElem?_getD, List.getElem?_eq_getElem (by omega)] at this
theorem impl_apply.step_sorted {xs : List S51} (h : impl_apply.Sorted xs) (c : S79) : impl_apply.Sorted (spec_l03Apply.step xs c) := by
  have hr : impl_apply.Sorted (spec_l03Apply.rest xs c.f0) := by
    unfold spec_l03Apply.rest
    split
    · exact h.sublist (List.drop_sublist _ _)
    · exact h.sublist (List.drop_sublist _ _)
  have ht : impl_apply.Sorted (xs.take (spec_l03Apply.pos xs c.f0)) := h.sublist (List.take_sublist _ _)
  have ha := impl_apply.rest_above h c.f0
  have hb := impl_apply.take_below xs c.f0
  unfold spec_l03Apply.step
  split
  · exact List.pairwise_append.2 ⟨ht, hr, fun x hx y hy => Ythacgkafdjnppaa.OpenOrd.less_trans _ _ _ (hb x hx) (ha y hy)⟩
  · refine List.pairwise_append.2 ⟨ht, List.pairwise_cons.2 ⟨fun y hy => ha y hy, hr⟩, fun x hx y hy => ?_⟩
    rcases List.mem_cons.1 hy with rfl | hy
    · exact hb x hx
    · exact Ythacgkafdjnppaa.OpenOrd.less_trans _ _ _ (hb x hx) (ha y hy)
theorem impl_apply.applied_sorted {xs : List S51} (h : impl_apply.Sorted xs) (cs : List S79) : impl_apply.Sorted (spec_l03Apply.applied xs cs) := by
  induction cs generalizing xs with
  | nil => exact h
  | cons c cs ih => exact ih (impl_apply.step_sorted h c)
def impl_apply.f (l0 : List (S51)) (l1 : List (S79)) : Option ((List (S51)) × Bool) := if l0.length ≤ 4096 ∧ l1.length ≤ 4096 ∧ impl_apply.Sorted l0 then some (spec_l03Apply.applied l0 l1, decide ((spec_l03Apply.applied l0 l1).length ≤ 100)) else none
theorem impl_apply.alloc_at (w : World) (o : Obj) : (w.alloc o).heap[w.heap.size]? = some o := by
  show (w.heap.push o)[w.heap.size]? = _
  simp
theorem impl_apply.search (A : Option Addr) (c : Nat) (xs : List S51) (key : ByteArray) (w : World) (hC : Kd.C k51 w A xs.length xs) (hn : xs.length ≤ 100000) (hs : impl_apply.Sorted xs) :
    Calls Try.prog 56 #[.slice A xs.length c, .string key, .func (.func 57) #[] #[]] w fun e w' => e = .returned (.tuple #[.int .i64 (spec_l03Apply.pos xs key : Nat), .bool (spec_l03Apply.hit xs key)]) ∧ Below w.heap.size w w' := by
  have hneg : ∀ a : S51, Lib.compareBytes a.f0.data.toList key.data.toList < 0 ↔ spec_l03Apply.lt a.f0 key = true := fun a => Ythacgkafdjnppaa.OpenOrd.cmp_neg _ _
  refine (impl_Pair_string.calls A c xs key w hC hn (fun a b hab hb h => (hneg _).2 (impl_apply.mono hs key a b hab hb ((hneg _).1 h)))).mono ?_
  rintro e w' ⟨r, rfl, hr, h1, h2, hb⟩
  have hp : spec_l03Apply.pos xs key = r := Ythacgkafdjnppaa.OpenOrd.ahead_is (fun x : S51 => spec_l03Apply.lt x.f0 key) z51 xs r hr (fun j hj => (hneg _).1 (h1 j hj)) (fun hlt => by
    cases hc : spec_l03Apply.lt (xs.getD r z51).f0 key with
    | false => rfl
    | true => exact absurd ((hneg _).2 hc) (h2 r (Nat.le_refl _) hlt))
  refine ⟨?_, hb⟩
  unfold spec_l03Apply.hit
  rw [hp]
  congr 4
  simp only [Ythacgkafdjnppaa.OpenOrd.cmp_zero]
set_option maxHeartbeats 8000000 in
set_option maxRecDepth 100000 in
theorem impl_apply.calls (A0 : Option Addr) (c0 : Nat) (l0 : List (S51)) (A1 : Option Addr) (c1 : Nat) (l1 : List (S79)) (r1 : List (S51)) (r2 : Bool) (w : World) (hr0 : Kd.C k51 w A0 l0.length l0) (hc0 : l0.length ≤ c0) (hr1 : Kd.C k79 w A1 l1.length l1) (hc1 : l1.length ≤ c1) (h : impl_apply.f l0 l1 = some (r1, r2)) :
    Calls Try.prog 41 #[.slice A0 l0.length c0, .slice A1 l1.length c1] w fun e w' => ∃ v0_ : Value, e = .returned (.tuple #[v0_, .bool r2]) ∧ Kd.R k51 51 w' w.heap.size (fun _ => True) v0_ r1 ∧ Below w.heap.size w w' := by
  unfold impl_apply.f at h
  have hs : l0.length ≤ 4096 ∧ l1.length ≤ 4096 ∧ impl_apply.Sorted l0 := Classical.byContradiction fun hs => by rw [if_neg hs] at h; cases h
  rw [if_pos hs] at h
  injection h with h
  injection h with e1 e2
  subst e1 e2
  obtain ⟨h0, h1, hso⟩ := hs
  have hu := Try.underlying51
  have hu2 := Try.underlying79
  have hlen1 : l1.length ≤ 9223372036854775807 := by omega
  have HSO := Aside0.mk hso
  have HC1 := Aside0.mk hr1
  have HK := Aside0.mk (impl_Pair_55.calls A0 c0 l0 l0 w hr0 hc0 (by unfold impl_Pair_55.f; rw [if_pos (by omega)]))
  clear hr0 hr1 hso
  go_enter Try.func41, Try.ntmps41
  go_wp2_with ((with_reducible refine (HK.out).mono ?_); rintro e w2 ⟨v2, rfl, ho2, hb2⟩; have HO2 := Aside0.mk ho2; have HB2 := Aside0.mk hb2; clear ho2 hb2)
  go_loopg [6, 15] l1.length (fun gg s6 s15 wr => ∃ kk : Nat, kk ≤ l1.length ∧ l1.length - kk ≤ gg ∧ s15 = .int .i64 kk ∧ Aside0 (Kd.R k51 51 wr w.heap.size (fun _ => True) s6 (spec_l03Apply.applied l0 (l1.take kk))) ∧ Aside0 (Below w.heap.size w wr))
  case atStart => exact ⟨0, Nat.zero_le _, by omega, rfl, ⟨HO2.out⟩, HB2⟩
  case round =>
    obtain ⟨kk, hkk, hg, rfl, HO, HB⟩ := hrel
    by_cases hlt : kk < l1.length
    · have hltz : (kk : Int) < (l1.length : Int) := by omega
      have HCr := Aside0.mk (Kd.C_below HC1.out HB.out)
      obtain ⟨ad, e1, hx0, hx1, hx2⟩ := at_T79 HCr.out (kk : Int) (by omega) (by omega)
      cases e1
      have hrd : rd_T79 l1 (kk : Int) = l1.getD kk z79 := by rw [rd_T79, Int.toNat_natCast]
      simp only [Int.toNat_natCast, hrd] at hx0 hx1 hx2
      have HST := Aside0.mk (spec_l03Apply.applied_succ l0 l1 kk hlt)
      have HLN := Aside0.mk (show (spec_l03Apply.applied l0 (l1.take kk)).length ≤ 100000 by have := spec_l03Apply.applied_length l0 (l1.take kk); rw [List.length_take] at this; omega)
      have HSR := Aside0.mk (impl_apply.applied_sorted HSO.out (l1.take kk))
      generalize l1.getD kk z79 = x at *
      generalize spec_l03Apply.applied l0 (l1.take kk) = xs at *
      clear hrd
      obtain ⟨x0, x1, x2⟩ := x
      obtain ⟨A4, c4, rfl⟩ := Kd.R_slice HO.out
      obtain ⟨p, hpos⟩ : ∃ p, spec_l03Apply.pos xs x0 = p := ⟨_, rfl⟩
      cases x2 with
      | true =>
        cases hhit : spec_l03Apply.hit xs x0 with
        | true =>
          have HS := Aside0.mk (show Calls Try.prog 56 #[.slice A4 xs.length c4, .string x0, .func (.func 57) #[] #[]] (wr.alloc (.cells #[.string x0, .string x1, .bool true] 79)) (fun e w' => e = .returned (.tuple #[.int .i64 (p : Int), .bool true]) ∧ Below ((wr.alloc (.cells #[.string x0, .string x1, .bool true] 79))).heap.size (wr.alloc (.cells #[.string x0, .string x1, .bool true] 79)) w') by have := impl_apply.search A4 c4 xs x0 (wr.alloc (.cells #[.string x0, .string x1, .bool true] 79)) (Kd.R_reads' (Kd.R_alloc HO.out (.cells #[.string x0, .string x1, .bool true] 79))).2.2 HLN.out HSR.out; rw [hpos, hhit] at this; exact this)
          have HBb := Aside0.mk (show Below w.heap.size w (wr.alloc (.cells #[.string x0, .string x1, .bool true] 79)) from below_alloc HB.out _)
          have HOb := Aside0.mk (show Kd.R k51 51 (wr.alloc (.cells #[.string x0, .string x1, .bool true] 79)) w.heap.size (fun k => k ≠ wr.heap.size) (.slice A4 xs.length c4) xs from Kd.R_alloc (Kd.R_mono (Kd.R_elderB HO.out wr.heap.size (Nat.le_refl _)) (fun _ hk => hk.2)) _)
          have z0 : ((wr.alloc (.cells #[.string x0, .string x1, .bool true] 79))).cell? ⟨wr.heap.size, 0, none⟩ = some (.string x0) := by go_simp
          have z1 : ((wr.alloc (.cells #[.string x0, .string x1, .bool true] 79))).cell? ⟨wr.heap.size, 1, none⟩ = some (.string x1) := by go_simp
          have z2 : ((wr.alloc (.cells #[.string x0, .string x1, .bool true] 79))).cell? ⟨wr.heap.size, 2, none⟩ = some (.bool true) := by go_simp
          have hpl : p ≤ xs.length := by rw [← hpos]; exact Ythacgkafdjnppaa.OpenOrd.ahead_le _ _
          have HP := Aside0.mk (show p < xs.length by have := hhit; unfold spec_l03Apply.hit at this; rw [hpos, Bool.and_eq_true, decide_eq_true_eq] at this; exact this.1)
          have HI := Aside0.mk (show p ≤ (xs.eraseIdx p).length by have := HP.out; rw [List.length_eraseIdx_of_lt this]; omega)
          have HLE := Aside0.mk (show (xs.eraseIdx p).length ≤ 100000 by have := HP.out; have := HLN.out; rw [List.length_eraseIdx_of_lt (by assumption)]; omega)
          have ht_ : (xs.eraseIdx p).take p = xs.take p := by rw [List.eraseIdx_eq_take_drop_succ, List.take_append_of_le_length (by rw [List.length_take]; omega), List.take_take, Nat.min_self]
          have hd_ : (xs.eraseIdx p).drop p = xs.drop (p + 1) := by rw [List.eraseIdx_eq_take_drop_succ, List.drop_append_of_le_length (by rw [List.length_take]; omega), List.drop_of_length_le (by rw [List.length_take]; omega), List.nil_append]
          have HFIN := Aside0.mk (show spec_l03Apply.step xs (⟨x0, x1, true⟩ : S79) = xs.eraseIdx p by rw [spec_l03Apply.step, if_pos rfl, spec_l03Apply.rest, if_pos hhit, hpos, List.eraseIdx_eq_take_drop_succ])
          clear ht_ hd_
          have hpb : (p : Int) + 1 ≤ 1000000 := by have := HLN.out; omega
          have hw1 : IntKind.i64.wrap ((p : Int) + 1) = (p : Int) + 1 := by rw [IntKind.wrap_i64]; omega
          have hw2 : IntKind.i64.wrap ((kk : Int) + 1) = (kk : Int) + 1 := by rw [IntKind.wrap_i64]; omega
          clear hhit hpos hpl
          go_wp2_with (first | ((with_reducible refine (HS.out).mono ?_); rintro e w3 ⟨rfl, hb⟩; have HB3 := Aside0.mk (below_step HBb.out hb); have HO3 := Aside0.mk (Kd.R_below HOb.out hb); have y0 := (hb.cell (p := ⟨wr.heap.size, 0, none⟩) (by simp)).trans z0; have y1 := (hb.cell (p := ⟨wr.heap.size, 1, none⟩) (by simp)).trans z1; have y2 := (hb.cell (p := ⟨wr.heap.size, 2, none⟩) (by simp)).trans z2; clear hb) | ((with_reducible refine (impl_Pair_59.calls _ xs p w w3 HB3.out (Kd.R_mono HO3.out (fun _ _ => trivial)) HP.out).mono ?_); rintro e w4 ⟨v4, rfl, ho4, hb4, hg4⟩; have hne4 : some wr.heap.size ≠ (Value.slice A4 xs.length c4).ownBlock := (fun he => HO3.out.1 _ he.symm rfl); have u0 := cell_grown hg4 y0 hne4; have u1 := cell_grown hg4 y1 hne4; have u2 := cell_grown hg4 y2 hne4; have HB4 := Aside0.mk hb4; have HO4 := Aside0.mk ho4; clear ho4 hb4 hg4 hne4))
          go_roundg (l1.length - (kk + 1))
          case measure => omega
          case rel => exact ⟨kk + 1, by omega, by omega, by go_num, ⟨by rw [HST.out, HFIN.out]; exact Kd.R_mono HO4.out (fun _ _ => trivial)⟩, HB4⟩
        | false =>
          have HS := Aside0.mk (show Calls Try.prog 56 #[.slice A4 xs.length c4, .string x0, .func (.func 57) #[] #[]] (wr.alloc (.cells #[.string x0, .string x1, .bool true] 79)) (fun e w' => e = .returned (.tuple #[.int .i64 (p : Int), .bool false]) ∧ Below ((wr.alloc (.cells #[.string x0, .string x1, .bool true] 79))).heap.size (wr.alloc (.cells #[.string x0, .string x1, .bool true] 79)) w') by have := impl_apply.search A4 c4 xs x0 (wr.alloc (.cells #[.string x0, .string x1, .bool true] 79)) (Kd.R_reads' (Kd.R_alloc HO.out (.cells #[.string x0, .string x1, .bool true] 79))).2.2 HLN.out HSR.out; rw [hpos, hhit] at this; exact this)
          have HBb := Aside0.mk (show Below w.heap.size w (wr.alloc (.cells #[.string x0, .string x1, .bool true] 79)) from below_alloc HB.out _)
          have HOb := Aside0.mk (show Kd.R k51 51 (wr.alloc (.cells #[.string x0, .string x1, .bool true] 79)) w.heap.size (fun k => k ≠ wr.heap.size) (.slice A4 xs.length c4) xs from Kd.R_alloc (Kd.R_mono (Kd.R_elderB HO.out wr.heap.size (Nat.le_refl _)) (fun _ hk => hk.2)) _)
          have z0 : ((wr.alloc (.cells #[.string x0, .string x1, .bool true] 79))).cell? ⟨wr.heap.size, 0, none⟩ = some (.string x0) := by go_simp
          have z1 : ((wr.alloc (.cells #[.string x0, .string x1, .bool true] 79))).cell? ⟨wr.heap.size, 1, none⟩ = some (.string x1) := by go_simp
          have z2 : ((wr.alloc (.cells #[.string x0, .string x1, .bool true] 79))).cell? ⟨wr.heap.size, 2, none⟩ = some (.bool true) := by go_simp
          have hpl : p ≤ xs.length := by rw [← hpos]; exact Ythacgkafdjnppaa.OpenOrd.ahead_le _ _
          have HI := Aside0.mk hpl
          have HLE := HLN
          have HFIN := Aside0.mk (show spec_l03Apply.step xs (⟨x0, x1, true⟩ : S79) = xs by rw [spec_l03Apply.step, if_pos rfl, spec_l03Apply.rest, if_neg (by rw [hhit]; simp), hpos, List.take_append_drop])
          have hpb : (p : Int) + 1 ≤ 1000000 := by have := HLN.out; omega
          have hw1 : IntKind.i64.wrap ((p : Int) + 1) = (p : Int) + 1 := by rw [IntKind.wrap_i64]; omega
          have hw2 : IntKind.i64.wrap ((kk : Int) + 1) = (kk : Int) + 1 := by rw [IntKind.wrap_i64]; omega
          clear hhit hpos hpl
          go_wp2_with (first | ((with_reducible refine (HS.out).mono ?_); rintro e w3 ⟨rfl, hb⟩; have HB3 := Aside0.mk (below_step HBb.out hb); have HO3 := Aside0.mk (Kd.R_below HOb.out hb); have y0 := (hb.cell (p := ⟨wr.heap.size, 0, none⟩) (by simp)).trans z0; have y1 := (hb.cell (p := ⟨wr.heap.size, 1, none⟩) (by simp)).trans z1; have y2 := (hb.cell (p := ⟨wr.heap.size, 2, none⟩) (by simp)).trans z2; clear hb))
          go_roundg (l1.length - (kk + 1))
          case measure => omega
          case rel => exact ⟨kk + 1, by omega, by omega, by go_num, ⟨by rw [HST.out, HFIN.out]; exact Kd.R_mono HO3.out (fun _ _ => trivial)⟩, HB3⟩
      | false =>
        cases hhit : spec_l03Apply.hit xs x0 with
        | true =>
          have HS := Aside0.mk (show Calls Try.prog 56 #[.slice A4 xs.length c4, .string x0, .func (.func 57) #[] #[]] (wr.alloc (.cells #[.string x0, .string x1, .bool false] 79)) (fun e w' => e = .returned (.tuple #[.int .i64 (p : Int), .bool true]) ∧ Below ((wr.alloc (.cells #[.string x0, .string x1, .bool false] 79))).heap.size (wr.alloc (.cells #[.string x0, .string x1, .bool false] 79)) w') by have := impl_apply.search A4 c4 xs x0 (wr.alloc (.cells #[.string x0, .string x1, .bool false] 79)) (Kd.R_reads' (Kd.R_alloc HO.out (.cells #[.string x0, .string x1, .bool false] 79))).2.2 HLN.out HSR.out; rw [hpos, hhit] at this; exact this)
          have HBb := Aside0.mk (show Below w.heap.size w (wr.alloc (.cells #[.string x0, .string x1, .bool false] 79)) from below_alloc HB.out _)
          have HOb := Aside0.mk (show Kd.R k51 51 (wr.alloc (.cells #[.string x0, .string x1, .bool false] 79)) w.heap.size (fun k => k ≠ wr.heap.size) (.slice A4 xs.length c4) xs from Kd.R_alloc (Kd.R_mono (Kd.R_elderB HO.out wr.heap.size (Nat.le_refl _)) (fun _ hk => hk.2)) _)
          have z0 : ((wr.alloc (.cells #[.string x0, .string x1, .bool false] 79))).cell? ⟨wr.heap.size, 0, none⟩ = some (.string x0) := by go_simp
          have z1 : ((wr.alloc (.cells #[.string x0, .string x1, .bool false] 79))).cell? ⟨wr.heap.size, 1, none⟩ = some (.string x1) := by go_simp
          have z2 : ((wr.alloc (.cells #[.string x0, .string x1, .bool false] 79))).cell? ⟨wr.heap.size, 2, none⟩ = some (.bool false) := by go_simp
          have hpl : p ≤ xs.length := by rw [← hpos]; exact Ythacgkafdjnppaa.OpenOrd.ahead_le _ _
          have HP := Aside0.mk (show p < xs.length by have := hhit; unfold spec_l03Apply.hit at this; rw [hpos, Bool.and_eq_true, decide_eq_true_eq] at this; exact this.1)
          have HI := Aside0.mk (show p ≤ (xs.eraseIdx p).length by have := HP.out; rw [List.length_eraseIdx_of_lt this]; omega)
          have HLE := Aside0.mk (show (xs.eraseIdx p).length ≤ 100000 by have := HP.out; have := HLN.out; rw [List.length_eraseIdx_of_lt (by assumption)]; omega)
          have ht_ : (xs.eraseIdx p).take p = xs.take p := by rw [List.eraseIdx_eq_take_drop_succ, List.take_append_of_le_length (by rw [List.length_take]; omega), List.take_take, Nat.min_self]
          have hd_ : (xs.eraseIdx p).drop p = xs.drop (p + 1) := by rw [List.eraseIdx_eq_take_drop_succ, List.drop_append_of_le_length (by rw [List.length_take]; omega), List.drop_of_length_le (by rw [List.length_take]; omega), List.nil_append]
          have HFIN := Aside0.mk (show spec_l03Apply.step xs (⟨x0, x1, false⟩ : S79) = (xs.eraseIdx p).take p ++ (⟨x0, x1⟩ : S51) :: (xs.eraseIdx p).drop p by rw [spec_l03Apply.step, if_neg (by simp), spec_l03Apply.rest, if_pos hhit, hpos, ht_, hd_])
          clear ht_ hd_
          have hpb : (p : Int) + 1 ≤ 1000000 := by have := HLN.out; omega
          have hw1 : IntKind.i64.wrap ((p : Int) + 1) = (p : Int) + 1 := by rw [IntKind.wrap_i64]; omega
          have hw2 : IntKind.i64.wrap ((kk : Int) + 1) = (kk : Int) + 1 := by rw [IntKind.wrap_i64]; omega
          clear hhit hpos hpl
          go_wp2_with (first | ((with_reducible refine (HS.out).mono ?_); rintro e w3 ⟨rfl, hb⟩; have HB3 := Aside0.mk (below_step HBb.out hb); have HO3 := Aside0.mk (Kd.R_below HOb.out hb); have y0 := (hb.cell (p := ⟨wr.heap.size, 0, none⟩) (by simp)).trans z0; have y1 := (hb.cell (p := ⟨wr.heap.size, 1, none⟩) (by simp)).trans z1; have y2 := (hb.cell (p := ⟨wr.heap.size, 2, none⟩) (by simp)).trans z2; clear hb) | ((with_reducible refine (impl_Pair_59.calls _ xs p w w3 HB3.out (Kd.R_mono HO3.out (fun _ _ => trivial)) HP.out).mono ?_); rintro e w4 ⟨v4, rfl, ho4, hb4, hg4⟩; have hne4 : some wr.heap.size ≠ (Value.slice A4 xs.length c4).ownBlock := (fun he => HO3.out.1 _ he.symm rfl); have u0 := cell_grown hg4 y0 hne4; have u1 := cell_grown hg4 y1 hne4; have u2 := cell_grown hg4 y2 hne4; have HB4 := Aside0.mk hb4; have HO4 := Aside0.mk ho4; clear ho4 hb4 hg4 hne4) | ((with_reducible refine (impl_Pair_60.calls _ (xs.eraseIdx p) ⟨x0, x1⟩ p w4.heap.size w (w4.alloc (.cells #[.string x0, .string x1] 51)) (below_alloc HB4.out _) (Kd.R_mono (Kd.R_alloc (Kd.R_elderB HO4.out w4.heap.size (Nat.le_refl _)) _) (fun _ hk => hk.2)) HI.out HLE.out (impl_apply.alloc_at _ _)).mono ?_); rintro e w5 ⟨v5, rfl, ho5, hb5⟩; have HB5 := Aside0.mk hb5; have HO5 := Aside0.mk ho5; clear ho5 hb5))
          go_roundg (l1.length - (kk + 1))
          case measure => omega
          case rel => exact ⟨kk + 1, by omega, by omega, by go_num, ⟨by rw [HST.out, HFIN.out]; exact Kd.R_mono HO5.out (fun _ _ => trivial)⟩, HB5⟩
        | false =>
          have HS := Aside0.mk (show Calls Try.prog 56 #[.slice A4 xs.length c4, .string x0, .func (.func 57) #[] #[]] (wr.alloc (.cells #[.string x0, .string x1, .bool false] 79)) (fun e w' => e = .returned (.tuple #[.int .i64 (p : Int), .bool false]) ∧ Below ((wr.alloc (.cells #[.string x0, .string x1, .bool false] 79))).heap.size (wr.alloc (.cells #[.string x0, .string x1, .bool false] 79)) w') by have := impl_apply.search A4 c4 xs x0 (wr.alloc (.cells #[.string x0, .string x1, .bool false] 79)) (Kd.R_reads' (Kd.R_alloc HO.out (.cells #[.string x0, .string x1, .bool false] 79))).2.2 HLN.out HSR.out; rw [hpos, hhit] at this; exact this)
          have HBb := Aside0.mk (show Below w.heap.size w (wr.alloc (.cells #[.string x0, .string x1, .bool false] 79)) from below_alloc HB.out _)
          have HOb := Aside0.mk (show Kd.R k51 51 (wr.alloc (.cells #[.string x0, .string x1, .bool false] 79)) w.heap.size (fun k => k ≠ wr.heap.size) (.slice A4 xs.length c4) xs from Kd.R_alloc (Kd.R_mono (Kd.R_elderB HO.out wr.heap.size (Nat.le_refl _)) (fun _ hk => hk.2)) _)
          have z0 : ((wr.alloc (.cells #[.string x0, .string x1, .bool false] 79))).cell? ⟨wr.heap.size, 0, none⟩ = some (.string x0) := by go_simp
          have z1 : ((wr.alloc (.cells #[.string x0, .string x1, .bool false] 79))).cell? ⟨wr.heap.size, 1, none⟩ = some (.string x1) := by go_simp
          have z2 : ((wr.alloc (.cells #[.string x0, .string x1, .bool false] 79))).cell? ⟨wr.heap.size, 2, none⟩ = some (.bool false) := by go_simp
          have hpl : p ≤ xs.length := by rw [← hpos]; exact Ythacgkafdjnppaa.OpenOrd.ahead_le _ _
          have HI := Aside0.mk hpl
          have HLE := HLN
          have HFIN := Aside0.mk (show spec_l03Apply.step xs (⟨x0, x1, false⟩ : S79) = xs.take p ++ (⟨x0, x1⟩ : S51) :: xs.drop p by rw [spec_l03Apply.step, if_neg (by simp), spec_l03Apply.rest, if_neg (by rw [hhit]; simp), hpos])
          have hpb : (p : Int) + 1 ≤ 1000000 := by have := HLN.out; omega
          have hw1 : IntKind.i64.wrap ((p : Int) + 1) = (p : Int) + 1 := by rw [IntKind.wrap_i64]; omega
          have hw2 : IntKind.i64.wrap ((kk : Int) + 1) = (kk : Int) + 1 := by rw [IntKind.wrap_i64]; omega
          clear hhit hpos hpl
          go_wp2_with (first | ((with_reducible refine (HS.out).mono ?_); rintro e w3 ⟨rfl, hb⟩; have HB3 := Aside0.mk (below_step HBb.out hb); have HO3 := Aside0.mk (Kd.R_below HOb.out hb); have y0 := (hb.cell (p := ⟨wr.heap.size, 0, none⟩) (by simp)).trans z0; have y1 := (hb.cell (p := ⟨wr.heap.size, 1, none⟩) (by simp)).trans z1; have y2 := (hb.cell (p := ⟨wr.heap.size, 2, none⟩) (by simp)).trans z2; clear hb) | ((with_reducible refine (impl_Pair_60.calls _ xs ⟨x0, x1⟩ p w3.heap.size w (w3.alloc (.cells #[.string x0, .string x1] 51)) (below_alloc HB3.out _) (Kd.R_mono (Kd.R_alloc (Kd.R_elderB HO3.out w3.heap.size (Nat.le_refl _)) _) (fun _ hk => hk.2)) HI.out HLE.out (impl_apply.alloc_at _ _)).mono ?_); rintro e w5 ⟨v5, rfl, ho5, hb5⟩; have HB5 := Aside0.mk hb5; have HO5 := Aside0.mk ho5; clear ho5 hb5))
          go_roundg (l1.length - (kk + 1))
          case measure => omega
          case rel => exact ⟨kk + 1, by omega, by omega, by go_num, ⟨by rw [HST.out, HFIN.out]; exact Kd.R_mono HO5.out (fun _ _ => trivial)⟩, HB5⟩
    · have hltz : ¬ (kk : Int) < (l1.length : Int) := by omega
      obtain rfl : kk = l1.length := by omega
      have HO3 := HO
      rw [List.take_length] at HO3
      clear HO
      obtain ⟨A4, c4, rfl⟩ := Kd.R_slice HO3.out
      go_wp2
      go_ret2
      refine ⟨_, ?_, HO3.out, HB.out⟩
      show Ending.returned (.tuple #[_, .bool (decide (((spec_l03Apply.applied l0 l1).length : Int) ≤ 100))]) = _
      rw [show decide (((spec_l03Apply.applied l0 l1).length : Int) ≤ 100) = decide ((spec_l03Apply.applied l0 l1).length ≤ 100) from by congr 1; exact propext (by omega)]
      rfl
def impl_Device_load.l0 : Nat → List (S51) → List (List Int) → Int → Int → Option ((List (S51)))
  | 0, _, _, _, _ => none
  | k + 1, x5, x17, x18, x19 => if x19 < x18 then (if 0 ≤ x19 then (if x19 < (x17.length : Int) then ((impl_readBatch.f (rd_L2 x17 x19)).bind fun bt279 => (if bt279.2 = true then ((impl_apply.f x5 bt279.1).bind fun bt283 => (if bt283.2 = true then (impl_Device_load.l0 k bt283.1 x17 x18 (wrap64 (x19 + 1))) else (some x5))) else (some x5))) else (none)) else (none)) else (some x5)
def impl_Device_load.f (k : Nat) (l0_0 : List Int) (l0_1 : List (S65)) : Option ((List (S51))) := (impl_Device_read.f k l0_0 l0_1).bind fun t271 => ((impl_scan.f k t271).bind fun bt274 => (impl_Device_load.l0 k ([] : List (S51)) bt274.1 (bt274.1.length : Int) 0))
theorem impl_Device_load.mono_l : ∀ k, (∀ y0 y1 y2 y3, LeO (impl_Device_load.l0 k y0 y1 y2 y3) (impl_Device_load.l0 (k + 1) y0 y1 y2 y3))
  | 0 => fun _ _ _ _ r h => by simp [impl_Device_load.l0] at h
  | k + 1 => by
    have ih0 := impl_Device_load.mono_l k
    · intro y0 y1 y2 y3
      unfold impl_Device_load.l0
      repeat' first
      | (with_reducible exact ih0 _ _ _ _)
      | (with_reducible exact impl_Device_read.mono _ _ _)
      | (with_reducible exact impl_scan.mono _ _)
      | (with_reducible exact LeO.refl _)
      | (with_reducible exact LeO.none _)
      | (with_reducible refine LeO.ite ?_ ?_)
      | (with_reducible refine LeO.bind ?_ (fun _ => ?_))
      | exact ih0 _ _ _ _
      | exact impl_Device_read.mono _ _ _
      | exact impl_scan.mono _ _
      | exact LeO.none _
      | refine LeO.ite ?_ ?_
      | refine LeO.bind ?_ (fun _ => ?_)
theorem impl_Device_load.mono : ∀ a0 a1 k, LeO (impl_Device_load.f k a0 a1) (impl_Device_load.f (k + 1) a0 a1) := by
  intro a0 a1 k
  have ih0 := impl_Device_load.mono_l k
  unfold impl_Device_load.f
  repeat' first
      | (with_reducible exact ih0 _ _ _ _)
      | (with_reducible exact impl_Device_read.mono _ _ _)
      | (with_reducible exact impl_scan.mono _ _)
      | (with_reducible exact LeO.refl _)
      | (with_reducible exact LeO.none _)
      | (with_reducible refine LeO.ite ?_ ?_)
      | (with_reducible refine LeO.bind ?_ (fun _ => ?_))
      | exact ih0 _ _ _ _
      | exact impl_Device_read.mono _ _ _
      | exact impl_scan.mono _ _
      | exact LeO.none _
      | refine LeO.ite ?_ ?_
      | refine LeO.bind ?_ (fun _ => ?_)
set_option maxHeartbeats 8000000 in
set_option maxRecDepth 100000 in
theorem impl_Device_load.calls (k : Nat) (A0_0 : Option Addr) (c0_0 : Nat) (l0_0 : List Int) (A0_1 : Option Addr) (c0_1 : Nat) (l0_1 : List (S65)) (r : List (S51)) (w : World) (hr0_0 : Kd.C (Kd.int .u8) w A0_0 l0_0.length l0_0) (hc0_0 : l0_0.length ≤ c0_0) (hr0_1 : Kd.C k65 w A0_1 l0_1.length l0_1) (hc0_1 : l0_1.length ≤ c0_1) (h : impl_Device_load.f k l0_0 l0_1 = some r) :
    Calls Try.prog 20 #[.agg #[.slice A0_0 l0_0.length c0_0, .slice A0_1 l0_1.length c0_1]] w fun e w' => ∃ v0_ : Value, e = .returned (v0_) ∧ Kd.R k51 51 w' w.heap.size (fun _ => True) v0_ r ∧ Below w.heap.size w w' := by
  have hu32 := Try.underlying32
  have HR0_0 := Aside0.mk hr0_0
  have HC0_0 := Aside0.mk hc0_0
  clear hr0_0 hc0_0
  have HR0_1 := Aside0.mk hr0_1
  have HC0_1 := Aside0.mk hc0_1
  clear hr0_1 hc0_1
  have HB := Aside0.mk (Below.refl w.heap.size w)
  have H : ((impl_Device_read.f k l0_0 l0_1).bind fun t271 => ((impl_scan.f k t271).bind fun bt274 => (impl_Device_load.l0 k ([] : List (S51)) bt274.1 (bt274.1.length : Int) 0))) = some r := h
  clear h
  replace H := Option.bind_eq_some_iff.mp H
  obtain ⟨t271, A20, H⟩ := H
  replace H : ((impl_scan.f k t271).bind fun bt274 => (impl_Device_load.l0 k ([] : List (S51)) bt274.1 (bt274.1.length : Int) 0)) = some r := H
  have A2 := Aside0.mk A20
  clear A20
  replace H := Option.bind_eq_some_iff.mp H
  obtain ⟨⟨t274, t275⟩, A30, H⟩ := H
  replace H : (impl_Device_load.l0 k ([] : List (S51)) t274 (t274.length : Int) 0) = some r := H
  have A3 := Aside0.mk A30
  clear A30
  have H' := Aside0.mk H
  clear H
  go_enter Try.func20, Try.ntmps20
  go_wp2_with (first | ((with_reducible refine gate_dst (N := 1) rfl ?_); refine box_event ?hg (N := 1) ?hd (cs := #[.slice A0_0 l0_0.length c0_0, .slice A0_1 l0_1.length c0_1]) (t := 32) ?hr ?_; (case hd => rfl); (case hg => rfl); (case hr => first | (go_simp; done) | (go_simp; rfl)); intro gb270 hg w4 hbox hb; have n0_ := Aside0.mk (below_step (by repeat (first | (with_reducible first | exact HB.out | apply below_alloc | apply pw_below_drewN | apply below_drew1) | exact HB.out)) hb); have n1_ := Aside0.mk (hbox); have n2_ := Aside0.mk ((by rw [hg]; exact (below_size (by repeat (first | (with_reducible first | exact HB.out | apply below_alloc | apply pw_below_drewN | apply below_drew1) | exact HB.out))) : w.heap.size ≤ gb270)); have n3_ := Aside0.mk ((by rw [hg]; exact (below_size (by repeat (first | (with_reducible first | exact HB.out | apply below_alloc | apply pw_below_drewN | apply below_drew1) | exact HB.out))) : w.heap.size ≤ gb270)); clear HB; have HB := n0_; have BK270 := n1_; have GW270 := n2_; have GE270 := n3_; clear n0_ n1_ n2_ n3_; clear hb hbox hg; have hcz5_0 : w4.cell? ⟨gb270, 0, none⟩ = some (.slice A0_0 l0_0.length c0_0) := (blk_cell BK270.out 0).trans rfl; have hcz5_1 : w4.cell? ⟨gb270, 1, none⟩ = some (.slice A0_1 l0_1.length c0_1) := (blk_cell BK270.out 1).trans rfl; have hfz5_0 := blk_frozen BK270.out 0; have hfz5_1 := blk_frozen BK270.out 1) | ((with_reducible refine gate_callee (f := 39) rfl ?_); refine goesL_ (some 13) rfl rfl Try.func39 (by kernel_rfl) rfl #[.agg #[.slice A0_0 l0_0.length c0_0, .slice A0_1 l0_1.length c0_1]] rfl (by (try simp only [List.map_toArray, List.map_cons, List.map_nil]); first | done | rfl | (simp only [List.length_drop, List.length_take]; rfl)) ?_; (with_reducible refine (impl_Device_read.calls k _ _ l0_0 _ _ l0_1 t271 _ ?side1 ?side2 ?side3 ?side4 A2.out).mono ?_); (case side1 => repeat (first | exact (Kd.C_below HR0_0.out HB.out) | (with_reducible refine Kd.C_alloc ?_ _) | (with_reducible refine Kd.C_drewN ?_ _) | (with_reducible refine Kd.C_drew ?_))); (case side2 => exact HC0_0.out); (case side3 => repeat (first | exact (Kd.C_below HR0_1.out HB.out) | (with_reducible refine Kd.C_alloc ?_ _) | (with_reducible refine Kd.C_drewN ?_ _) | (with_reducible refine Kd.C_drew ?_))); (case side4 => exact HC0_1.out); rintro e w6 ⟨v272, rfl, ho0, hb⟩; refine ⟨_, rfl, ?_⟩; have n0_ := Aside0.mk (Kd.R_lower ho0 (below_size (by repeat (first | (with_reducible first | exact HB.out | apply below_alloc | apply pw_below_drewN | apply below_drew1 | refine below_set ?_ GE270.out) | exact HB.out)))); have n1_ := Aside0.mk (blk_below (g := gb270) (o := .cells #[.slice A0_0 l0_0.length c0_0, .slice A0_1 l0_1.length c0_1] 32 (0, 0)) (by (with_reducible repeat (first | refine blk_drewN ?_ _ | refine blk_drew ?_ | refine blk_alloc ?_ _)); exact BK270.out) hb); have n2_ := Aside0.mk (below_step (by repeat (first | (with_reducible first | exact HB.out | apply below_alloc | apply pw_below_drewN | apply below_drew1 | refine below_set ?_ GE270.out) | exact HB.out)) hb); clear BK270; clear HB; have HO273 := n0_; have BK270 := n1_; have HB := n2_; clear n0_ n1_ n2_; (try clear hb); (try clear hb2); (try clear hk); (try clear hi); (try clear ho0); obtain ⟨Ao7, co7, eo7⟩ := Kd.R_slice HO273.out; subst eo7) | ((with_reducible refine gate_callee (f := 38) rfl ?_); refine goesL_ (some 14) rfl rfl Try.func38 (by kernel_rfl) rfl #[.slice Ao7 t271.length co7] rfl (by (try simp only [List.map_toArray, List.map_cons, List.map_nil]); first | done | rfl | (simp only [List.length_drop, List.length_take]; rfl)) ?_; (with_reducible refine (impl_scan.calls k _ _ t271 t274 t275 _ ?side1 ?side2 A3.out).mono ?_); (case side1 => repeat (first | exact (Kd.R_reads' HO273.out).2.2 | (with_reducible refine Kd.C_alloc ?_ _) | (with_reducible refine Kd.C_drewN ?_ _) | (with_reducible refine Kd.C_drew ?_))); (case side2 => exact (Kd.R_reads' HO273.out).2.1); rintro e w8 ⟨v276, rfl, ho0, hb⟩; refine ⟨_, rfl, ?_⟩; have n0_ := Aside0.mk (Kd.R_below (by (with_reducible repeat (first | apply Kd.R_alloc | apply Kd.R_drewN | apply Kd.R_drew)); exact HO273.out) hb); have n1_ := Aside0.mk (Kd.S_lower (Kd.S_new' ho0 (Kd.R_lt (by (with_reducible repeat (first | apply Kd.R_alloc | apply Kd.R_drewN | apply Kd.R_drew)); exact HO273.out))) (below_size (by repeat (first | (with_reducible first | exact HB.out | apply below_alloc | apply pw_below_drewN | apply below_drew1 | refine below_set ?_ GE270.out) | exact HB.out)))); have n2_ := Aside0.mk (blk_below (g := gb270) (o := .cells #[.slice A0_0 l0_0.length c0_0, .slice A0_1 l0_1.length c0_1] 32 (0, 0)) (by (with_reducible repeat (first | refine blk_drewN ?_ _ | refine blk_drew ?_ | refine blk_alloc ?_ _)); exact BK270.out) hb); have n3_ := Aside0.mk (below_step (by repeat (first | (with_reducible first | exact HB.out | apply below_alloc | apply pw_below_drewN | apply below_drew1 | refine below_set ?_ GE270.out) | exact HB.out)) hb); clear HO273; clear BK270; clear HB; have HO273 := n0_; have HO277 := n1_; have BK270 := n2_; have HB := n3_; clear n0_ n1_ n2_ n3_; (try clear hb); (try clear hb2); (try clear hk); (try clear hi); (try clear ho0); obtain ⟨Ao9, co9, eo9⟩ := Kd.S_slice HO277.out; subst eo9))
  go_loopg [5, 19] k (fun kq v5 v19 w' => ∃ (x5_1 : List (S51)) (x19_1 : Int), v19 = .int .i64 x19_1 ∧ Aside0 (impl_Device_load.l0 kq x5_1 t274 (t274.length : Int) x19_1 = some r) ∧ Aside0 (kq ≤ k) ∧ Aside0 (Kd.R k51 51 w' w.heap.size (fun _ => True) v5 x5_1) ∧ Aside0 (Kd.S (Kd.slice 5 (Kd.int .u8)) 22 w' w.heap.size (fun _ => True) (.slice Ao9 t274.length co9) t274) ∧ Aside0 (w'.heap[gb270]? = some (.cells #[(.slice A0_0 l0_0.length c0_0), (.slice A0_1 l0_1.length c0_1)] 32 (0, 0))) ∧ Aside0 (Below w.heap.size w w'))
  case atStart => exact ⟨(([] : List (S51))), (0), (by first | rfl | (simp; done) | (simp [*]; done)), H', ⟨Nat.le_refl _⟩, ⟨by first | exact Kd.R_nil _ _ _ _ _ | exact Kd.N_nil _ _ _ _ _ | exact Kd.V_nil _ _ _ _ _ | exact Kd.Q_nil _ _ _ _ _ | exact Kd.S_nil _ _ _ _ _⟩, ⟨by (with_reducible repeat (first | apply Kd.S_alloc | apply Kd.S_drewN | apply Kd.S_drew)); exact Kd.S_mono HO277.out (fun _ hk => trivial)⟩, ⟨by (with_reducible repeat (first | refine blk_drewN ?_ _ | refine blk_drew ?_ | refine blk_alloc ?_ _)); exact BK270.out⟩, ⟨by repeat (first | (with_reducible first | exact HB.out | apply below_alloc | apply pw_below_drewN | apply below_drew1 | refine below_set ?_ GE270.out) | exact HB.out)⟩⟩
  case round =>
    clear H'
    try clear c2
    try clear p2
    try clear c3
    try clear hcz5_0
    try clear hcz5_1
    try clear hfz5_0
    try clear hfz5_1
    obtain ⟨x5_1, x19_1, rfl, HA, HK1, HO_5, HO_17, BK270, HB⟩ := hrel
    cases gk with
    | zero => exact absurd HA.out (by simp [impl_Device_load.l0])
    | succ k1 =>
      have H := HA.out
      clear HA
      simp only [impl_Device_load.l0] at H
      by_cases c10 : x19_1 < (t274.length : Int)
      · rw [if_pos c10] at H
        have c10b0 : decide (x19_1 < (t274.length : Int)) = true := decide_eq_true c10
        clear c10
        by_cases c11 : 0 ≤ x19_1
        · rw [if_pos c11] at H
          have c11b0 : decide (0 ≤ x19_1) = true := decide_eq_true c11
          clear c11
          by_cases c12 : x19_1 < (t274.length : Int)
          · rw [if_pos c12] at H
            have c12b0 : decide (x19_1 < (t274.length : Int)) = true := decide_eq_true c12
            clear c12
            replace H := Option.bind_eq_some_iff.mp H
            obtain ⟨⟨t279, t280⟩, A130, H⟩ := H
            replace H : (if t280 = true then ((impl_apply.f x5_1 t279).bind fun bt283 => (if bt283.2 = true then (impl_Device_load.l0 k1 bt283.1 t274 (t274.length : Int) (wrap64 (x19_1 + 1))) else (some x5_1))) else (some x5_1)) = some r := H
            have A13 := Aside0.mk A130
            clear A130
            by_cases c14 : t280 = true
            · subst c14
              have H1 : ((impl_apply.f x5_1 t279).bind fun bt283 => (if bt283.2 = true then (impl_Device_load.l0 k1 bt283.1 t274 (t274.length : Int) (wrap64 (x19_1 + 1))) else (some x5_1))) = some r := by rw [if_pos rfl] at H; exact H
              clear H
              have H := H1
              clear H1
              replace H := Option.bind_eq_some_iff.mp H
              obtain ⟨⟨t283, t284⟩, A150, H⟩ := H
              replace H : (if t284 = true then (impl_Device_load.l0 k1 t283 t274 (t274.length : Int) (wrap64 (x19_1 + 1))) else (some x5_1)) = some r := H
              have A15 := Aside0.mk A150
              clear A150
              by_cases c16 : t284 = true
              · subst c16
                have H1 : (impl_Device_load.l0 k1 t283 t274 (t274.length : Int) (wrap64 (x19_1 + 1))) = some r := by rw [if_pos rfl] at H; exact H
                clear H
                have H := H1
                clear H1
                have H' := Aside0.mk H
                clear H
                have p278 : 0 ≤ (x19_1 : Int) := of_decide_eq_true (by first | (with_reducible assumption) | assumption)
                have q278 : x19_1 < (t274.length : Int) := of_decide_eq_true (by first | (with_reducible assumption) | assumption)
                obtain ⟨ad278, A278_0, c278_0, e278, hx278_0, hl278_0, hi278_0⟩ := at_L2 (Kd.S_reads' HO_17.out).2.2 x19_1 p278 q278
                cases e278
                obtain ⟨ce278, hce278, hMe278, hcc278⟩ := Kd.S_get HO_17.out [] x19_1 p278 (by first | exact q278 | exact of_decide_eq_true (by first | (with_reducible assumption) | assumption) | (have e_ := (Kd.S_reads' HO_17.out).1; omega))
                obtain ⟨ve278_0, rfl, ge278_0⟩ := hMe278
                have hv278_0 := hcc278 0 _ rfl
                rw [Nat.add_zero, show ((Kd.slice 5 (Kd.int .u8))).sz = 1 from rfl, Nat.mul_one] at hv278_0
                replace hv278_0 := Option.some.inj (hv278_0.symm.trans hx278_0)
                rw [hv278_0] at ge278_0
                have HL278_0 := Aside0.mk (show Kd.R (Kd.int .u8) 5 _ _ _ _ (rd_L2 t274 x19_1) from ge278_0)
                clear hv278_0 ge278_0
                clear hcc278 hce278
                have HR278_0 := Aside0.mk hi278_0
                have HC278_0 := Aside0.mk hl278_0
                clear hi278_0 hl278_0
                replace p278 := eq_true p278
                replace q278 := eq_true q278
                go_wp2_with (first | ((with_reducible refine gate_callee (f := 40) rfl ?_); refine goesL_ (some 25) rfl rfl Try.func40 (by kernel_rfl) rfl #[.slice A278_0 (rd_L2 t274 x19_1).length c278_0] rfl (by (try simp only [List.map_toArray, List.map_cons, List.map_nil]); first | done | rfl | (simp only [List.length_drop, List.length_take]; rfl)) ?_; (with_reducible refine (impl_readBatch.calls _ _ (rd_L2 t274 x19_1) t279 true _ ?side1 ?side2 A13.out).mono ?_); (case side1 => repeat (first | exact (by repeat (first | (with_reducible exact HR278_0.out) | (with_reducible refine Kd.C_alloc ?_ _) | (with_reducible refine Kd.C_drewN ?_ _) | (with_reducible refine Kd.C_drew ?_) | exact HR278_0.out)) | (with_reducible refine Kd.C_alloc ?_ _) | (with_reducible refine Kd.C_drewN ?_ _) | (with_reducible refine Kd.C_drew ?_))); (case side2 => exact HC278_0.out); rintro e w17 ⟨v281, rfl, ho0, hb⟩; refine ⟨_, rfl, ?_⟩; have n0_ := Aside0.mk (Kd.R_below (by (with_reducible repeat (first | apply Kd.R_alloc | apply Kd.R_drewN | apply Kd.R_drew)); exact HO_5.out) hb); have n1_ := Aside0.mk (Kd.S_below (by (with_reducible repeat (first | apply Kd.S_alloc | apply Kd.S_drewN | apply Kd.S_drew)); exact HO_17.out) hb); have n2_ := Aside0.mk (Kd.R_below (by (with_reducible repeat (first | apply Kd.R_alloc | apply Kd.R_drewN | apply Kd.R_drew)); exact HL278_0.out) hb); have n3_ := Aside0.mk (Kd.R_lower ho0 (below_size (by repeat (first | (with_reducible first | exact HB.out | apply below_alloc | apply pw_below_drewN | apply below_drew1 | refine below_set ?_ GE270.out) | exact HB.out)))); have n4_ := Aside0.mk (blk_below (g := gb270) (o := .cells #[.slice A0_0 l0_0.length c0_0, .slice A0_1 l0_1.length c0_1] 32 (0, 0)) (by (with_reducible repeat (first | refine blk_drewN ?_ _ | refine blk_drew ?_ | refine blk_alloc ?_ _)); exact BK270.out) hb); have n5_ := Aside0.mk (Kd.C_below (by repeat (first | (with_reducible exact HR278_0.out) | (with_reducible refine Kd.C_alloc ?_ _) | (with_reducible refine Kd.C_drewN ?_ _) | (with_reducible refine Kd.C_drew ?_) | exact HR278_0.out)) hb); have n6_ := Aside0.mk (below_step (by repeat (first | (with_reducible first | exact HB.out | apply below_alloc | apply pw_below_drewN | apply below_drew1 | refine below_set ?_ GE270.out) | exact HB.out)) hb); clear HO_5; clear HO_17; clear HL278_0; clear BK270; clear HR278_0; clear HB; have HO_5 := n0_; have HO_17 := n1_; have HL278_0 := n2_; have HO282 := n3_; have BK270 := n4_; have HR278_0 := n5_; have HB := n6_; clear n0_ n1_ n2_ n3_ n4_ n5_ n6_; (try clear hb); (try clear hb2); (try clear hk); (try clear hi); (try clear ho0); obtain ⟨Ao18, co18, eo18⟩ := Kd.R_slice HO_5.out; subst eo18; obtain ⟨Ao19, co19, eo19⟩ := Kd.R_slice HO282.out; subst eo19) | ((with_reducible refine gate_callee (f := 41) rfl ?_); refine goesL_ (some 33) rfl rfl Try.func41 (by kernel_rfl) rfl #[.slice Ao18 x5_1.length co18, .slice Ao19 t279.length co19] rfl (by (try simp only [List.map_toArray, List.map_cons, List.map_nil]); first | done | rfl | (simp only [List.length_drop, List.length_take]; rfl)) ?_; (with_reducible refine (impl_apply.calls _ _ x5_1 _ _ t279 t283 true _ ?side1 ?side2 ?side3 ?side4 A15.out).mono ?_); (case side1 => repeat (first | exact (Kd.R_reads' HO_5.out).2.2 | (with_reducible refine Kd.C_alloc ?_ _) | (with_reducible refine Kd.C_drewN ?_ _) | (with_reducible refine Kd.C_drew ?_))); (case side2 => exact (Kd.R_reads' HO_5.out).2.1); (case side3 => repeat (first | exact (Kd.R_reads' HO282.out).2.2 | (with_reducible refine Kd.C_alloc ?_ _) | (with_reducible refine Kd.C_drewN ?_ _) | (with_reducible refine Kd.C_drew ?_))); (case side4 => exact (Kd.R_reads' HO282.out).2.1); rintro e w20 ⟨v285, rfl, ho0, hb⟩; refine ⟨_, rfl, ?_⟩; have n0_ := Aside0.mk (Kd.R_elder' (by (with_reducible repeat (first | apply Kd.R_alloc | apply Kd.R_drewN | apply Kd.R_drew)); exact HO_5.out) (Kd.R_base ho0) hb); have n1_ := Aside0.mk (Kd.S_below (by (with_reducible repeat (first | apply Kd.S_alloc | apply Kd.S_drewN | apply Kd.S_drew)); exact HO_17.out) hb); have n2_ := Aside0.mk (Kd.R_below (by (with_reducible repeat (first | apply Kd.R_alloc | apply Kd.R_drewN | apply Kd.R_drew)); exact HL278_0.out) hb); have n3_ := Aside0.mk (Kd.R_below (by (with_reducible repeat (first | apply Kd.R_alloc | apply Kd.R_drewN | apply Kd.R_drew)); exact HO282.out) hb); have n4_ := Aside0.mk (Kd.R_lower (Kd.R_new' ho0 (Kd.R_lt (by (with_reducible repeat (first | apply Kd.R_alloc | apply Kd.R_drewN | apply Kd.R_drew)); exact HO_5.out))) (below_size (by repeat (first | (with_reducible first | exact HB.out | apply below_alloc | apply pw_below_drewN | apply below_drew1 | refine below_set ?_ GE270.out) | exact HB.out)))); have n5_ := Aside0.mk (blk_below (g := gb270) (o := .cells #[.slice A0_0 l0_0.length c0_0, .slice A0_1 l0_1.length c0_1] 32 (0, 0)) (by (with_reducible repeat (first | refine blk_drewN ?_ _ | refine blk_drew ?_ | refine blk_alloc ?_ _)); exact BK270.out) hb); have n6_ := Aside0.mk (Kd.C_below (by repeat (first | (with_reducible exact HR278_0.out) | (with_reducible refine Kd.C_alloc ?_ _) | (with_reducible refine Kd.C_drewN ?_ _) | (with_reducible refine Kd.C_drew ?_) | exact HR278_0.out)) hb); have n7_ := Aside0.mk (below_step (by repeat (first | (with_reducible first | exact HB.out | apply below_alloc | apply pw_below_drewN | apply below_drew1 | refine below_set ?_ GE270.out) | exact HB.out)) hb); clear HO_5; clear HO_17; clear HL278_0; clear HO282; clear BK270; clear HR278_0; clear HB; have HO_5 := n0_; have HO_17 := n1_; have HL278_0 := n2_; have HO282 := n3_; have HO286 := n4_; have BK270 := n5_; have HR278_0 := n6_; have HB := n7_; clear n0_ n1_ n2_ n3_ n4_ n5_ n6_ n7_; (try clear hb); (try clear hb2); (try clear hk); (try clear hi); (try clear ho0)))
                go_roundg k1
                case measure => have := HK1.out; omega
                case rel => exact ⟨(t283), (wrap64 (x19_1 + 1)), (by first | rfl | (simp; done) | (simp [*]; done)), H', ⟨by have := HK1.out; omega⟩, ⟨by (with_reducible repeat (first | apply Kd.R_alloc | apply Kd.R_drewN | apply Kd.R_drew)); exact Kd.R_mono HO286.out (fun _ hk => trivial)⟩, ⟨by (with_reducible repeat (first | apply Kd.S_alloc | apply Kd.S_drewN | apply Kd.S_drew)); exact HO_17.out⟩, ⟨by (with_reducible repeat (first | refine blk_drewN ?_ _ | refine blk_drew ?_ | refine blk_alloc ?_ _)); exact BK270.out⟩, ⟨by repeat (first | (with_reducible first | exact HB.out | apply below_alloc | apply pw_below_drewN | apply below_drew1 | refine below_set ?_ GE270.out) | exact HB.out)⟩⟩
              · replace c16 := Bool.eq_false_iff.mpr c16
                subst c16
                have H1 : (some x5_1) = some r := by rw [if_neg (show ¬ (false = true) by decide)] at H; exact H
                clear H
                have H := H1
                clear H1
                obtain rfl := Option.some.inj H
                have p278 : 0 ≤ (x19_1 : Int) := of_decide_eq_true (by first | (with_reducible assumption) | assumption)
                have q278 : x19_1 < (t274.length : Int) := of_decide_eq_true (by first | (with_reducible assumption) | assumption)
                obtain ⟨ad278, A278_0, c278_0, e278, hx278_0, hl278_0, hi278_0⟩ := at_L2 (Kd.S_reads' HO_17.out).2.2 x19_1 p278 q278
                cases e278
                obtain ⟨ce278, hce278, hMe278, hcc278⟩ := Kd.S_get HO_17.out [] x19_1 p278 (by first | exact q278 | exact of_decide_eq_true (by first | (with_reducible assumption) | assumption) | (have e_ := (Kd.S_reads' HO_17.out).1; omega))
                obtain ⟨ve278_0, rfl, ge278_0⟩ := hMe278
                have hv278_0 := hcc278 0 _ rfl
                rw [Nat.add_zero, show ((Kd.slice 5 (Kd.int .u8))).sz = 1 from rfl, Nat.mul_one] at hv278_0
                replace hv278_0 := Option.some.inj (hv278_0.symm.trans hx278_0)
                rw [hv278_0] at ge278_0
                have HL278_0 := Aside0.mk (show Kd.R (Kd.int .u8) 5 _ _ _ _ (rd_L2 t274 x19_1) from ge278_0)
                clear hv278_0 ge278_0
                clear hcc278 hce278
                have HR278_0 := Aside0.mk hi278_0
                have HC278_0 := Aside0.mk hl278_0
                clear hi278_0 hl278_0
                replace p278 := eq_true p278
                replace q278 := eq_true q278
                go_wp2_with (first | ((with_reducible refine gate_callee (f := 40) rfl ?_); refine goesL_ (some 25) rfl rfl Try.func40 (by kernel_rfl) rfl #[.slice A278_0 (rd_L2 t274 x19_1).length c278_0] rfl (by (try simp only [List.map_toArray, List.map_cons, List.map_nil]); first | done | rfl | (simp only [List.length_drop, List.length_take]; rfl)) ?_; (with_reducible refine (impl_readBatch.calls _ _ (rd_L2 t274 x19_1) t279 true _ ?side1 ?side2 A13.out).mono ?_); (case side1 => repeat (first | exact (by repeat (first | (with_reducible exact HR278_0.out) | (with_reducible refine Kd.C_alloc ?_ _) | (with_reducible refine Kd.C_drewN ?_ _) | (with_reducible refine Kd.C_drew ?_) | exact HR278_0.out)) | (with_reducible refine Kd.C_alloc ?_ _) | (with_reducible refine Kd.C_drewN ?_ _) | (with_reducible refine Kd.C_drew ?_))); (case side2 => exact HC278_0.out); rintro e w21 ⟨v281, rfl, ho0, hb⟩; refine ⟨_, rfl, ?_⟩; have n0_ := Aside0.mk (Kd.R_below (by (with_reducible repeat (first | apply Kd.R_alloc | apply Kd.R_drewN | apply Kd.R_drew)); exact HO_5.out) hb); have n1_ := Aside0.mk (Kd.S_below (by (with_reducible repeat (first | apply Kd.S_alloc | apply Kd.S_drewN | apply Kd.S_drew)); exact HO_17.out) hb); have n2_ := Aside0.mk (Kd.R_below (by (with_reducible repeat (first | apply Kd.R_alloc | apply Kd.R_drewN | apply Kd.R_drew)); exact HL278_0.out) hb); have n3_ := Aside0.mk (Kd.R_lower ho0 (below_size (by repeat (first | (with_reducible first | exact HB.out | apply below_alloc | apply pw_below_drewN | apply below_drew1 | refine below_set ?_ GE270.out) | exact HB.out)))); have n4_ := Aside0.mk (blk_below (g := gb270) (o := .cells #[.slice A0_0 l0_0.length c0_0, .slice A0_1 l0_1.length c0_1] 32 (0, 0)) (by (with_reducible repeat (first | refine blk_drewN ?_ _ | refine blk_drew ?_ | refine blk_alloc ?_ _)); exact BK270.out) hb); have n5_ := Aside0.mk (Kd.C_below (by repeat (first | (with_reducible exact HR278_0.out) | (with_reducible refine Kd.C_alloc ?_ _) | (with_reducible refine Kd.C_drewN ?_ _) | (with_reducible refine Kd.C_drew ?_) | exact HR278_0.out)) hb); have n6_ := Aside0.mk (below_step (by repeat (first | (with_reducible first | exact HB.out | apply below_alloc | apply pw_below_drewN | apply below_drew1 | refine below_set ?_ GE270.out) | exact HB.out)) hb); clear HO_5; clear HO_17; clear HL278_0; clear BK270; clear HR278_0; clear HB; have HO_5 := n0_; have HO_17 := n1_; have HL278_0 := n2_; have HO282 := n3_; have BK270 := n4_; have HR278_0 := n5_; have HB := n6_; clear n0_ n1_ n2_ n3_ n4_ n5_ n6_; (try clear hb); (try clear hb2); (try clear hk); (try clear hi); (try clear ho0); obtain ⟨Ao22, co22, eo22⟩ := Kd.R_slice HO_5.out; subst eo22; obtain ⟨Ao23, co23, eo23⟩ := Kd.R_slice HO282.out; subst eo23) | ((with_reducible refine gate_callee (f := 41) rfl ?_); refine goesL_ (some 33) rfl rfl Try.func41 (by kernel_rfl) rfl #[.slice Ao22 x5_1.length co22, .slice Ao23 t279.length co23] rfl (by (try simp only [List.map_toArray, List.map_cons, List.map_nil]); first | done | rfl | (simp only [List.length_drop, List.length_take]; rfl)) ?_; (with_reducible refine (impl_apply.calls _ _ x5_1 _ _ t279 t283 false _ ?side1 ?side2 ?side3 ?side4 A15.out).mono ?_); (case side1 => repeat (first | exact (Kd.R_reads' HO_5.out).2.2 | (with_reducible refine Kd.C_alloc ?_ _) | (with_reducible refine Kd.C_drewN ?_ _) | (with_reducible refine Kd.C_drew ?_))); (case side2 => exact (Kd.R_reads' HO_5.out).2.1); (case side3 => repeat (first | exact (Kd.R_reads' HO282.out).2.2 | (with_reducible refine Kd.C_alloc ?_ _) | (with_reducible refine Kd.C_drewN ?_ _) | (with_reducible refine Kd.C_drew ?_))); (case side4 => exact (Kd.R_reads' HO282.out).2.1); rintro e w24 ⟨v285, rfl, ho0, hb⟩; refine ⟨_, rfl, ?_⟩; have n0_ := Aside0.mk (Kd.R_elder' (by (with_reducible repeat (first | apply Kd.R_alloc | apply Kd.R_drewN | apply Kd.R_drew)); exact HO_5.out) (Kd.R_base ho0) hb); have n1_ := Aside0.mk (Kd.S_below (by (with_reducible repeat (first | apply Kd.S_alloc | apply Kd.S_drewN | apply Kd.S_drew)); exact HO_17.out) hb); have n2_ := Aside0.mk (Kd.R_below (by (with_reducible repeat (first | apply Kd.R_alloc | apply Kd.R_drewN | apply Kd.R_drew)); exact HL278_0.out) hb); have n3_ := Aside0.mk (Kd.R_below (by (with_reducible repeat (first | apply Kd.R_alloc | apply Kd.R_drewN | apply Kd.R_drew)); exact HO282.out) hb); have n4_ := Aside0.mk (Kd.R_lower (Kd.R_new' ho0 (Kd.R_lt (by (with_reducible repeat (first | apply Kd.R_alloc | apply Kd.R_drewN | apply Kd.R_drew)); exact HO_5.out))) (below_size (by repeat (first | (with_reducible first | exact HB.out | apply below_alloc | apply pw_below_drewN | apply below_drew1 | refine below_set ?_ GE270.out) | exact HB.out)))); have n5_ := Aside0.mk (blk_below (g := gb270) (o := .cells #[.slice A0_0 l0_0.length c0_0, .slice A0_1 l0_1.length c0_1] 32 (0, 0)) (by (with_reducible repeat (first | refine blk_drewN ?_ _ | refine blk_drew ?_ | refine blk_alloc ?_ _)); exact BK270.out) hb); have n6_ := Aside0.mk (Kd.C_below (by repeat (first | (with_reducible exact HR278_0.out) | (with_reducible refine Kd.C_alloc ?_ _) | (with_reducible refine Kd.C_drewN ?_ _) | (with_reducible refine Kd.C_drew ?_) | exact HR278_0.out)) hb); have n7_ := Aside0.mk (below_step (by repeat (first | (with_reducible first | exact HB.out | apply below_alloc | apply pw_below_drewN | apply below_drew1 | refine below_set ?_ GE270.out) | exact HB.out)) hb); clear HO_5; clear HO_17; clear HL278_0; clear HO282; clear BK270; clear HR278_0; clear HB; have HO_5 := n0_; have HO_17 := n1_; have HL278_0 := n2_; have HO282 := n3_; have HO286 := n4_; have BK270 := n5_; have HR278_0 := n6_; have HB := n7_; clear n0_ n1_ n2_ n3_ n4_ n5_ n6_ n7_; (try clear hb); (try clear hb2); (try clear hk); (try clear hi); (try clear ho0)))
                go_ret
                exact ⟨_, by first | rfl | (simp [errW_none, errW_some] <;> rfl) | (simp [*, errW_none, errW_some] <;> rfl), by (with_reducible repeat (first | apply Kd.R_alloc | apply Kd.R_drewN | apply Kd.R_drew)); exact Kd.R_mono HO_5.out (fun _ hk => trivial), by repeat (first | (with_reducible first | exact HB.out | apply below_alloc | apply pw_below_drewN | apply below_drew1 | refine below_set ?_ GE270.out) | exact HB.out)⟩
            · replace c14 := Bool.eq_false_iff.mpr c14
              subst c14
              have H1 : (some x5_1) = some r := by rw [if_neg (show ¬ (false = true) by decide)] at H; exact H
              clear H
              have H := H1
              clear H1
              obtain rfl := Option.some.inj H
              have p278 : 0 ≤ (x19_1 : Int) := of_decide_eq_true (by first | (with_reducible assumption) | assumption)
              have q278 : x19_1 < (t274.length : Int) := of_decide_eq_true (by first | (with_reducible assumption) | assumption)
              obtain ⟨ad278, A278_0, c278_0, e278, hx278_0, hl278_0, hi278_0⟩ := at_L2 (Kd.S_reads' HO_17.out).2.2 x19_1 p278 q278
              cases e278
              obtain ⟨ce278, hce278, hMe278, hcc278⟩ := Kd.S_get HO_17.out [] x19_1 p278 (by first | exact q278 | exact of_decide_eq_true (by first | (with_reducible assumption) | assumption) | (have e_ := (Kd.S_reads' HO_17.out).1; omega))
              obtain ⟨ve278_0, rfl, ge278_0⟩ := hMe278
              have hv278_0 := hcc278 0 _ rfl
              rw [Nat.add_zero, show ((Kd.slice 5 (Kd.int .u8))).sz = 1 from rfl, Nat.mul_one] at hv278_0
              replace hv278_0 := Option.some.inj (hv278_0.symm.trans hx278_0)
              rw [hv278_0] at ge278_0
              have HL278_0 := Aside0.mk (show Kd.R (Kd.int .u8) 5 _ _ _ _ (rd_L2 t274 x19_1) from ge278_0)
              clear hv278_0 ge278_0
              clear hcc278 hce278
              have HR278_0 := Aside0.mk hi278_0
              have HC278_0 := Aside0.mk hl278_0
              clear hi278_0 hl278_0
              replace p278 := eq_true p278
              replace q278 := eq_true q278
              go_wp2_with (first | ((with_reducible refine gate_callee (f := 40) rfl ?_); refine goesL_ (some 25) rfl rfl Try.func40 (by kernel_rfl) rfl #[.slice A278_0 (rd_L2 t274 x19_1).length c278_0] rfl (by (try simp only [List.map_toArray, List.map_cons, List.map_nil]); first | done | rfl | (simp only [List.length_drop, List.length_take]; rfl)) ?_; (with_reducible refine (impl_readBatch.calls _ _ (rd_L2 t274 x19_1) t279 false _ ?side1 ?side2 A13.out).mono ?_); (case side1 => repeat (first | exact (by repeat (first | (with_reducible exact HR278_0.out) | (with_reducible refine Kd.C_alloc ?_ _) | (with_reducible refine Kd.C_drewN ?_ _) | (with_reducible refine Kd.C_drew ?_) | exact HR278_0.out)) | (with_reducible refine Kd.C_alloc ?_ _) | (with_reducible refine Kd.C_drewN ?_ _) | (with_reducible refine Kd.C_drew ?_))); (case side2 => exact HC278_0.out); rintro e w25 ⟨v281, rfl, ho0, hb⟩; refine ⟨_, rfl, ?_⟩; have n0_ := Aside0.mk (Kd.R_below (by (with_reducible repeat (first | apply Kd.R_alloc | apply Kd.R_drewN | apply Kd.R_drew)); exact HO_5.out) hb); have n1_ := Aside0.mk (Kd.S_below (by (with_reducible repeat (first | apply Kd.S_alloc | apply Kd.S_drewN | apply Kd.S_drew)); exact HO_17.out) hb); have n2_ := Aside0.mk (Kd.R_below (by (with_reducible repeat (first | apply Kd.R_alloc | apply Kd.R_drewN | apply Kd.R_drew)); exact HL278_0.out) hb); have n3_ := Aside0.mk (Kd.R_lower ho0 (below_size (by repeat (first | (with_reducible first | exact HB.out | apply below_alloc | apply pw_below_drewN | apply below_drew1 | refine below_set ?_ GE270.out) | exact HB.out)))); have n4_ := Aside0.mk (blk_below (g := gb270) (o := .cells #[.slice A0_0 l0_0.length c0_0, .slice A0_1 l0_1.length c0_1] 32 (0, 0)) (by (with_reducible repeat (first | refine blk_drewN ?_ _ | refine blk_drew ?_ | refine blk_alloc ?_ _)); exact BK270.out) hb); have n5_ := Aside0.mk (Kd.C_below (by repeat (first | (with_reducible exact HR278_0.out) | (with_reducible refine Kd.C_alloc ?_ _) | (with_reducible refine Kd.C_drewN ?_ _) | (with_reducible refine Kd.C_drew ?_) | exact HR278_0.out)) hb); have n6_ := Aside0.mk (below_step (by repeat (first | (with_reducible first | exact HB.out | apply below_alloc | apply pw_below_drewN | apply below_drew1 | refine below_set ?_ GE270.out) | exact HB.out)) hb); clear HO_5; clear HO_17; clear HL278_0; clear BK270; clear HR278_0; clear HB; have HO_5 := n0_; have HO_17 := n1_; have HL278_0 := n2_; have HO282 := n3_; have BK270 := n4_; have HR278_0 := n5_; have HB := n6_; clear n0_ n1_ n2_ n3_ n4_ n5_ n6_; (try clear hb); (try clear hb2); (try clear hk); (try clear hi); (try clear ho0)))
              go_ret
              exact ⟨_, by first | rfl | (simp [errW_none, errW_some] <;> rfl) | (simp [*, errW_none, errW_some] <;> rfl), by (with_reducible repeat (first | apply Kd.R_alloc | apply Kd.R_drewN | apply Kd.R_drew)); exact HO_5.out, by repeat (first | (with_reducible first | exact HB.out | apply below_alloc | apply pw_below_drewN | apply below_drew1 | refine below_set ?_ GE270.out) | exact HB.out)⟩
          · rw [if_neg c12] at H
            exact absurd H (by simp)
        · rw [if_neg c11] at H
          exact absurd H (by simp)
      · rw [if_neg c10] at H
        have c10b0 : decide (x19_1 < (t274.length : Int)) = false := decide_eq_false c10
        clear c10
        obtain rfl := Option.some.inj H
        go_wp2
        go_ret
        exact ⟨_, by first | rfl | (simp [errW_none, errW_some] <;> rfl) | (simp [*, errW_none, errW_some] <;> rfl), by (with_reducible repeat (first | apply Kd.R_alloc | apply Kd.R_drewN | apply Kd.R_drew)); exact HO_5.out, by repeat (first | (with_reducible first | exact HB.out | apply below_alloc | apply pw_below_drewN | apply below_drew1 | refine below_set ?_ GE270.out) | exact HB.out)⟩
def impl_Load.f (k : Nat) (l0_0 : List Int) (l0_1 : List (S65)) : Option ((List (S51)) × Int) := (impl_DeviceOK.f l0_0 l0_1).bind fun t288 => (if t288 = true then ((impl_Device_load.f k l0_0 l0_1).bind fun t289 => (some (t289, 0))) else (some (([] : List (S51)), 1)))
theorem impl_Load.mono : ∀ a0 a1 k, LeO (impl_Load.f k a0 a1) (impl_Load.f (k + 1) a0 a1) := by
  intro a0 a1 k
  unfold impl_Load.f
  repeat' first
      | (with_reducible exact impl_Device_load.mono _ _ _)
      | (with_reducible exact LeO.refl _)
      | (with_reducible exact LeO.none _)
      | (with_reducible refine LeO.ite ?_ ?_)
      | (with_reducible refine LeO.bind ?_ (fun _ => ?_))
      | exact impl_Device_load.mono _ _ _
      | exact LeO.none _
      | refine LeO.ite ?_ ?_
      | refine LeO.bind ?_ (fun _ => ?_)
set_option maxHeartbeats 8000000 in
set_option maxRecDepth 100000 in
theorem impl_Load.calls (k : Nat) (A0_0 : Option Addr) (c0_0 : Nat) (l0_0 : List Int) (A0_1 : Option Addr) (c0_1 : Nat) (l0_1 : List (S65)) (r1 : List (S51)) (r2 : Int) (w : World) (hr0_0 : Kd.C (Kd.int .u8) w A0_0 l0_0.length l0_0) (hc0_0 : l0_0.length ≤ c0_0) (hr0_1 : Kd.C k65 w A0_1 l0_1.length l0_1) (hc0_1 : l0_1.length ≤ c0_1) (h : impl_Load.f k l0_0 l0_1 = some (r1, r2)) :
    Calls Try.prog 7 #[.agg #[.slice A0_0 l0_0.length c0_0, .slice A0_1 l0_1.length c0_1]] w fun e w' => ∃ v0_ : Value, e = .returned (.tuple #[v0_, .int .i64 r2]) ∧ Kd.R k51 51 w' w.heap.size (fun _ => True) v0_ r1 ∧ Below w.heap.size w w' := by
  have hu32 := Try.underlying32
  have HR0_0 := Aside0.mk hr0_0
  have HC0_0 := Aside0.mk hc0_0
  clear hr0_0 hc0_0
  have HR0_1 := Aside0.mk hr0_1
  have HC0_1 := Aside0.mk hc0_1
  clear hr0_1 hc0_1
  have HB := Aside0.mk (Below.refl w.heap.size w)
  have H : ((impl_DeviceOK.f l0_0 l0_1).bind fun t288 => (if t288 = true then ((impl_Device_load.f k l0_0 l0_1).bind fun t289 => (some (t289, 0))) else (some (([] : List (S51)), 1)))) = some (r1, r2) := h
  clear h
  replace H := Option.bind_eq_some_iff.mp H
  obtain ⟨t288, A20, H⟩ := H
  replace H : (if t288 = true then ((impl_Device_load.f k l0_0 l0_1).bind fun t289 => (some (t289, 0))) else (some (([] : List (S51)), 1))) = some (r1, r2) := H
  have A2 := Aside0.mk A20
  clear A20
  by_cases c3 : t288 = true
  · subst c3
    have H1 : ((impl_Device_load.f k l0_0 l0_1).bind fun t289 => (some (t289, 0))) = some (r1, r2) := by rw [if_pos rfl] at H; exact H
    clear H
    have H := H1
    clear H1
    replace H := Option.bind_eq_some_iff.mp H
    obtain ⟨t289, A40, H⟩ := H
    replace H : (some (t289, 0)) = some (r1, r2) := H
    have A4 := Aside0.mk A40
    clear A40
    simp only [Option.some.injEq, Prod.mk.injEq] at H
    obtain ⟨rfl, rfl⟩ := H
    go_enter Try.func7, Try.ntmps7
    go_wp2_with (first | ((with_reducible refine gate_dst (N := 1) rfl ?_); refine box_event ?hg (N := 1) ?hd (cs := #[.slice A0_0 l0_0.length c0_0, .slice A0_1 l0_1.length c0_1]) (t := 32) ?hr ?_; (case hd => rfl); (case hg => rfl); (case hr => first | (go_simp; done) | (go_simp; rfl)); intro gb287 hg w5 hbox hb; have n0_ := Aside0.mk (below_step (by repeat (first | (with_reducible first | exact HB.out | apply below_alloc | apply pw_below_drewN | apply below_drew1) | exact HB.out)) hb); have n1_ := Aside0.mk (hbox); have n2_ := Aside0.mk ((by rw [hg]; exact (below_size (by repeat (first | (with_reducible first | exact HB.out | apply below_alloc | apply pw_below_drewN | apply below_drew1) | exact HB.out))) : w.heap.size ≤ gb287)); have n3_ := Aside0.mk ((by rw [hg]; exact (below_size (by repeat (first | (with_reducible first | exact HB.out | apply below_alloc | apply pw_below_drewN | apply below_drew1) | exact HB.out))) : w.heap.size ≤ gb287)); clear HB; have HB := n0_; have BK287 := n1_; have GW287 := n2_; have GE287 := n3_; clear n0_ n1_ n2_ n3_; clear hb hbox hg; have hcz6_0 : w5.cell? ⟨gb287, 0, none⟩ = some (.slice A0_0 l0_0.length c0_0) := (blk_cell BK287.out 0).trans rfl; have hcz6_1 : w5.cell? ⟨gb287, 1, none⟩ = some (.slice A0_1 l0_1.length c0_1) := (blk_cell BK287.out 1).trans rfl; have hfz6_0 := blk_frozen BK287.out 0; have hfz6_1 := blk_frozen BK287.out 1) | ((with_reducible refine gate_callee (f := 19) rfl ?_); refine goesL_ (some 5) rfl rfl Try.func19 (by kernel_rfl) rfl #[.agg #[.slice A0_0 l0_0.length c0_0, .slice A0_1 l0_1.length c0_1]] rfl (by (try simp only [List.map_toArray, List.map_cons, List.map_nil]); first | done | rfl | (simp only [List.length_drop, List.length_take]; rfl)) ?_; (with_reducible refine (impl_DeviceOK.calls _ _ l0_0 _ _ l0_1 true _ ?side1 ?side2 ?side3 ?side4 A2.out).mono ?_); (case side1 => repeat (first | exact (Kd.C_below HR0_0.out HB.out) | (with_reducible refine Kd.C_alloc ?_ _) | (with_reducible refine Kd.C_drewN ?_ _) | (with_reducible refine Kd.C_drew ?_))); (case side2 => exact HC0_0.out); (case side3 => repeat (first | exact (Kd.C_below HR0_1.out HB.out) | (with_reducible refine Kd.C_alloc ?_ _) | (with_reducible refine Kd.C_drewN ?_ _) | (with_reducible refine Kd.C_drew ?_))); (case side4 => exact HC0_1.out); rintro e w7 ⟨rfl, hb⟩; refine ⟨_, rfl, ?_⟩; have n0_ := Aside0.mk (blk_below (g := gb287) (o := .cells #[.slice A0_0 l0_0.length c0_0, .slice A0_1 l0_1.length c0_1] 32 (0, 0)) (by (with_reducible repeat (first | refine blk_drewN ?_ _ | refine blk_drew ?_ | refine blk_alloc ?_ _)); exact BK287.out) hb); have n1_ := Aside0.mk (below_step (by repeat (first | (with_reducible first | exact HB.out | apply below_alloc | apply pw_below_drewN | apply below_drew1 | refine below_set ?_ GE287.out) | exact HB.out)) hb); clear BK287; clear HB; have BK287 := n0_; have HB := n1_; clear n0_ n1_; (try clear hb); (try clear hb2); (try clear hk); (try clear hi); have hcz8_0 : w7.cell? ⟨gb287, 0, none⟩ = some (.slice A0_0 l0_0.length c0_0) := (blk_cell BK287.out 0).trans rfl; have hcz8_1 : w7.cell? ⟨gb287, 1, none⟩ = some (.slice A0_1 l0_1.length c0_1) := (blk_cell BK287.out 1).trans rfl; have hfz8_0 := blk_frozen BK287.out 0; have hfz8_1 := blk_frozen BK287.out 1) | ((with_reducible refine gate_callee (f := 20) rfl ?_); refine goesL_ (some 8) rfl rfl Try.func20 (by kernel_rfl) rfl #[.agg #[.slice A0_0 l0_0.length c0_0, .slice A0_1 l0_1.length c0_1]] rfl (by (try simp only [List.map_toArray, List.map_cons, List.map_nil]); first | done | rfl | (simp only [List.length_drop, List.length_take]; rfl)) ?_; (with_reducible refine (impl_Device_load.calls k _ _ l0_0 _ _ l0_1 t289 _ ?side1 ?side2 ?side3 ?side4 A4.out).mono ?_); (case side1 => repeat (first | exact (Kd.C_below HR0_0.out HB.out) | (with_reducible refine Kd.C_alloc ?_ _) | (with_reducible refine Kd.C_drewN ?_ _) | (with_reducible refine Kd.C_drew ?_))); (case side2 => exact HC0_0.out); (case side3 => repeat (first | exact (Kd.C_below HR0_1.out HB.out) | (with_reducible refine Kd.C_alloc ?_ _) | (with_reducible refine Kd.C_drewN ?_ _) | (with_reducible refine Kd.C_drew ?_))); (case side4 => exact HC0_1.out); rintro e w9 ⟨v290, rfl, ho0, hb⟩; refine ⟨_, rfl, ?_⟩; have n0_ := Aside0.mk (Kd.R_lower ho0 (below_size (by repeat (first | (with_reducible first | exact HB.out | apply below_alloc | apply pw_below_drewN | apply below_drew1 | refine below_set ?_ GE287.out) | exact HB.out)))); have n1_ := Aside0.mk (blk_below (g := gb287) (o := .cells #[.slice A0_0 l0_0.length c0_0, .slice A0_1 l0_1.length c0_1] 32 (0, 0)) (by (with_reducible repeat (first | refine blk_drewN ?_ _ | refine blk_drew ?_ | refine blk_alloc ?_ _)); exact BK287.out) hb); have n2_ := Aside0.mk (below_step (by repeat (first | (with_reducible first | exact HB.out | apply below_alloc | apply pw_below_drewN | apply below_drew1 | refine below_set ?_ GE287.out) | exact HB.out)) hb); clear BK287; clear HB; have HO291 := n0_; have BK287 := n1_; have HB := n2_; clear n0_ n1_ n2_; (try clear hb); (try clear hb2); (try clear hk); (try clear hi); (try clear ho0)))
    go_ret2
    exact ⟨_, by first | rfl | (simp [errW_none, errW_some] <;> rfl) | (simp [*, errW_none, errW_some] <;> rfl), by (with_reducible repeat (first | apply Kd.R_alloc | apply Kd.R_drewN | apply Kd.R_drew)); exact HO291.out, by repeat (first | (with_reducible first | exact HB.out | apply below_alloc | apply pw_below_drewN | apply below_drew1 | refine below_set ?_ GE287.out) | exact HB.out)⟩
  · replace c3 := Bool.eq_false_iff.mpr c3
    subst c3
    have H1 : (some (([] : List (S51)), 1)) = some (r1, r2) := by rw [if_neg (show ¬ (false = true) by decide)] at H; exact H
    clear H
    have H := H1
    clear H1
    simp only [Option.some.injEq, Prod.mk.injEq] at H
    obtain ⟨rfl, rfl⟩ := H
    go_enter Try.func7, Try.ntmps7
    go_wp2_with (first | ((with_reducible refine gate_dst (N := 1) rfl ?_); refine box_event ?hg (N := 1) ?hd (cs := #[.slice A0_0 l0_0.length c0_0, .slice A0_1 l0_1.length c0_1]) (t := 32) ?hr ?_; (case hd => rfl); (case hg => rfl); (case hr => first | (go_simp; done) | (go_simp; rfl)); intro gb287 hg w10 hbox hb; have n0_ := Aside0.mk (below_step (by repeat (first | (with_reducible first | exact HB.out | apply below_alloc | apply pw_below_drewN | apply below_drew1) | exact HB.out)) hb); have n1_ := Aside0.mk (hbox); have n2_ := Aside0.mk ((by rw [hg]; exact (below_size (by repeat (first | (with_reducible first | exact HB.out | apply below_alloc | apply pw_below_drewN | apply below_drew1) | exact HB.out))) : w.heap.size ≤ gb287)); have n3_ := Aside0.mk ((by rw [hg]; exact (below_size (by repeat (first | (with_reducible first | exact HB.out | apply below_alloc | apply pw_below_drewN | apply below_drew1) | exact HB.out))) : w.heap.size ≤ gb287)); clear HB; have HB := n0_; have BK287 := n1_; have GW287 := n2_; have GE287 := n3_; clear n0_ n1_ n2_ n3_; clear hb hbox hg; have hcz11_0 : w10.cell? ⟨gb287, 0, none⟩ = some (.slice A0_0 l0_0.length c0_0) := (blk_cell BK287.out 0).trans rfl; have hcz11_1 : w10.cell? ⟨gb287, 1, none⟩ = some (.slice A0_1 l0_1.length c0_1) := (blk_cell BK287.out 1).trans rfl; have hfz11_0 := blk_frozen BK287.out 0; have hfz11_1 := blk_frozen BK287.out 1) | ((with_reducible refine gate_callee (f := 19) rfl ?_); refine goesL_ (some 5) rfl rfl Try.func19 (by kernel_rfl) rfl #[.agg #[.slice A0_0 l0_0.length c0_0, .slice A0_1 l0_1.length c0_1]] rfl (by (try simp only [List.map_toArray, List.map_cons, List.map_nil]); first | done | rfl | (simp only [List.length_drop, List.length_take]; rfl)) ?_; (with_reducible refine (impl_DeviceOK.calls _ _ l0_0 _ _ l0_1 false _ ?side1 ?side2 ?side3 ?side4 A2.out).mono ?_); (case side1 => repeat (first | exact (Kd.C_below HR0_0.out HB.out) | (with_reducible refine Kd.C_alloc ?_ _) | (with_reducible refine Kd.C_drewN ?_ _) | (with_reducible refine Kd.C_drew ?_))); (case side2 => exact HC0_0.out); (case side3 => repeat (first | exact (Kd.C_below HR0_1.out HB.out) | (with_reducible refine Kd.C_alloc ?_ _) | (with_reducible refine Kd.C_drewN ?_ _) | (with_reducible refine Kd.C_drew ?_))); (case side4 => exact HC0_1.out); rintro e w12 ⟨rfl, hb⟩; refine ⟨_, rfl, ?_⟩; have n0_ := Aside0.mk (blk_below (g := gb287) (o := .cells #[.slice A0_0 l0_0.length c0_0, .slice A0_1 l0_1.length c0_1] 32 (0, 0)) (by (with_reducible repeat (first | refine blk_drewN ?_ _ | refine blk_drew ?_ | refine blk_alloc ?_ _)); exact BK287.out) hb); have n1_ := Aside0.mk (below_step (by repeat (first | (with_reducible first | exact HB.out | apply below_alloc | apply pw_below_drewN | apply below_drew1 | refine below_set ?_ GE287.out) | exact HB.out)) hb); clear BK287; clear HB; have BK287 := n0_; have HB := n1_; clear n0_ n1_; (try clear hb); (try clear hb2); (try clear hk); (try clear hi)))
    go_ret2
    exact ⟨_, by first | rfl | (simp [errW_none, errW_some] <;> rfl) | (simp [*, errW_none, errW_some] <;> rfl), by first | exact Kd.R_nil _ _ _ _ _ | exact Kd.N_nil _ _ _ _ _ | exact Kd.V_nil _ _ _ _ _ | exact Kd.Q_nil _ _ _ _ _ | exact Kd.S_nil _ _ _ _ _, by repeat (first | (with_reducible first | exact HB.out | apply below_alloc | apply pw_below_drewN | apply below_drew1 | refine below_set ?_ GE287.out) | exact HB.out)⟩
def laws_eqPair.f (a0_0 : ByteArray) (a0_1 : ByteArray) (a1_0 : ByteArray) (a1_1 : ByteArray) : Option (Bool) := if a0_0.toList = a1_0.toList then (if a0_1.toList = a1_1.toList then (some true) else (some false)) else (some false)
set_option maxHeartbeats 8000000 in
set_option maxRecDepth 100000 in
theorem laws_eqPair.calls (a0_0 : ByteArray) (a0_1 : ByteArray) (a1_0 : ByteArray) (a1_1 : ByteArray) (r : Bool) (w : World) (h : laws_eqPair.f a0_0 a0_1 a1_0 a1_1 = some r) :
    Calls Try.prog 21 #[.agg #[.string a0_0, .string a0_1], .agg #[.string a1_0, .string a1_1]] w fun e w' => e = .returned (.bool r) ∧ Below w.heap.size w w' := by
  have hu51 := Try.underlying51
  have HB := Aside0.mk (Below.refl w.heap.size w)
  have H : (if a0_0.toList = a1_0.toList then (if a0_1.toList = a1_1.toList then (some true) else (some false)) else (some false)) = some r := h
  clear h
  by_cases c3 : a0_0.toList = a1_0.toList
  · rw [if_pos c3] at H
    have c3b0 : (a0_0.toList == a1_0.toList) = true := beq_iff_eq.mpr c3
    have c3b1 : (a0_0.toList != a1_0.toList) = false := bne_eq_false_iff_eq.mpr c3
    clear c3
    by_cases c4 : a0_1.toList = a1_1.toList
    · rw [if_pos c4] at H
      have c4b0 : (a0_1.toList == a1_1.toList) = true := beq_iff_eq.mpr c4
      have c4b1 : (a0_1.toList != a1_1.toList) = false := bne_eq_false_iff_eq.mpr c4
      clear c4
      obtain rfl := Option.some.inj H
      go_enter Try.func21, Try.ntmps21
      go_wp2_with (first | ((with_reducible refine gate_dst (N := 2) rfl ?_); refine box_event ?hg (N := 2) ?hd (cs := #[.string a0_0, .string a0_1]) (t := 51) ?hr ?_; (case hd => rfl); (case hg => rfl); (case hr => first | (go_simp; done) | (go_simp; rfl)); intro gb292 hg w5 hbox hb; have n0_ := Aside0.mk (below_step (by repeat (first | (with_reducible first | exact HB.out | apply below_alloc | apply pw_below_drewN | apply below_drew1) | exact HB.out)) hb); have n1_ := Aside0.mk (hbox); have n2_ := Aside0.mk ((by rw [hg]; exact (below_size (by repeat (first | (with_reducible first | exact HB.out | apply below_alloc | apply pw_below_drewN | apply below_drew1) | exact HB.out))) : w.heap.size ≤ gb292)); have n3_ := Aside0.mk ((by rw [hg]; exact (below_size (by repeat (first | (with_reducible first | exact HB.out | apply below_alloc | apply pw_below_drewN | apply below_drew1) | exact HB.out))) : w.heap.size ≤ gb292)); clear HB; have HB := n0_; have BK292 := n1_; have GW292 := n2_; have GE292 := n3_; clear n0_ n1_ n2_ n3_; clear hb hbox hg) | ((with_reducible refine gate_dst (N := 3) rfl ?_); refine box_event ?hg (N := 3) ?hd (cs := #[.string a1_0, .string a1_1]) (t := 51) ?hr ?_; (case hd => rfl); (case hg => rfl); (case hr => first | (go_simp; done) | (go_simp; rfl)); intro gb293 hg w6 hbox hb; have n0_ := Aside0.mk (blk_below (g := gb292) (o := .cells #[.string a0_0, .string a0_1] 51 (0, 0)) (by (with_reducible repeat (first | refine blk_drewN ?_ _ | refine blk_drew ?_ | refine blk_alloc ?_ _)); exact BK292.out) hb); have n1_ := Aside0.mk (below_step (by repeat (first | (with_reducible first | exact HB.out | apply below_alloc | apply pw_below_drewN | apply below_drew1 | refine below_set ?_ GE292.out) | exact HB.out)) hb); have n2_ := Aside0.mk (hbox); have n3_ := Aside0.mk ((by rw [hg]; exact (below_size (by repeat (first | (with_reducible first | exact HB.out | apply below_alloc | apply pw_below_drewN | apply below_drew1 | refine below_set ?_ GE292.out) | exact HB.out))) : w.heap.size ≤ gb293)); have n4_ := Aside0.mk ((by rw [hg]; exact (below_size (by repeat (first | (with_reducible first | exact HB.out | apply below_alloc | apply pw_below_drewN | apply below_drew1 | refine below_set ?_ GE292.out) | exact HB.out))) : w.heap.size ≤ gb293)); have n5_ := Aside0.mk ((by rw [hg]; exact Nat.ne_of_lt (blk_lt (g := gb292) (o := .cells #[.string a0_0, .string a0_1] 51 (0, 0)) (by (with_reducible repeat (first | refine blk_drewN ?_ _ | refine blk_drew ?_ | refine blk_alloc ?_ _)); exact BK292.out)) : gb292 ≠ gb293)); have n6_ := Aside0.mk ((by rw [hg]; exact Nat.ne_of_gt (blk_lt (g := gb292) (o := .cells #[.string a0_0, .string a0_1] 51 (0, 0)) (by (with_reducible repeat (first | refine blk_drewN ?_ _ | refine blk_drew ?_ | refine blk_alloc ?_ _)); exact BK292.out)) : gb293 ≠ gb292)); clear BK292; clear HB; have BK292 := n0_; have HB := n1_; have BK293 := n2_; have GW293 := n3_; have GE293 := n4_; have NB292_293 := n5_; have NB293_292 := n6_; clear n0_ n1_ n2_ n3_ n4_ n5_ n6_; clear hb hbox hg; have hnb7 := NB292_293.out; have hnc7 := NB293_292.out; have hcz8_0 : w6.cell? ⟨gb292, 0, none⟩ = some (.string a0_0) := (blk_cell BK292.out 0).trans rfl; have hcz8_1 : w6.cell? ⟨gb292, 1, none⟩ = some (.string a0_1) := (blk_cell BK292.out 1).trans rfl; have hfz8_0 := blk_frozen BK292.out 0; have hfz8_1 := blk_frozen BK292.out 1; have hcz9_0 : w6.cell? ⟨gb293, 0, none⟩ = some (.string a1_0) := (blk_cell BK293.out 0).trans rfl; have hcz9_1 : w6.cell? ⟨gb293, 1, none⟩ = some (.string a1_1) := (blk_cell BK293.out 1).trans rfl; have hfz9_0 := blk_frozen BK293.out 0; have hfz9_1 := blk_frozen BK293.out 1))
      go_ret
      exact ⟨by first | rfl | (simp [errW_none, errW_some] <;> rfl) | (simp [*, errW_none, errW_some] <;> rfl), by repeat (first | (with_reducible first | exact HB.out | apply below_alloc | apply pw_below_drewN | apply below_drew1 | refine below_set ?_ GE292.out | refine below_set ?_ GE293.out) | exact HB.out)⟩
    · rw [if_neg c4] at H
      have c4b0 : (a0_1.toList == a1_1.toList) = false := beq_eq_false_iff_ne.mpr c4
      have c4b1 : (a0_1.toList != a1_1.toList) = true := bne_iff_ne.mpr c4
      obtain rfl := Option.some.inj H
      go_enter Try.func21, Try.ntmps21
      go_wp2_with (first | ((with_reducible refine gate_dst (N := 2) rfl ?_); refine box_event ?hg (N := 2) ?hd (cs := #[.string a0_0, .string a0_1]) (t := 51) ?hr ?_; (case hd => rfl); (case hg => rfl); (case hr => first | (go_simp; done) | (go_simp; rfl)); intro gb292 hg w10 hbox hb; have n0_ := Aside0.mk (below_step (by repeat (first | (with_reducible first | exact HB.out | apply below_alloc | apply pw_below_drewN | apply below_drew1) | exact HB.out)) hb); have n1_ := Aside0.mk (hbox); have n2_ := Aside0.mk ((by rw [hg]; exact (below_size (by repeat (first | (with_reducible first | exact HB.out | apply below_alloc | apply pw_below_drewN | apply below_drew1) | exact HB.out))) : w.heap.size ≤ gb292)); have n3_ := Aside0.mk ((by rw [hg]; exact (below_size (by repeat (first | (with_reducible first | exact HB.out | apply below_alloc | apply pw_below_drewN | apply below_drew1) | exact HB.out))) : w.heap.size ≤ gb292)); clear HB; have HB := n0_; have BK292 := n1_; have GW292 := n2_; have GE292 := n3_; clear n0_ n1_ n2_ n3_; clear hb hbox hg) | ((with_reducible refine gate_dst (N := 3) rfl ?_); refine box_event ?hg (N := 3) ?hd (cs := #[.string a1_0, .string a1_1]) (t := 51) ?hr ?_; (case hd => rfl); (case hg => rfl); (case hr => first | (go_simp; done) | (go_simp; rfl)); intro gb293 hg w11 hbox hb; have n0_ := Aside0.mk (blk_below (g := gb292) (o := .cells #[.string a0_0, .string a0_1] 51 (0, 0)) (by (with_reducible repeat (first | refine blk_drewN ?_ _ | refine blk_drew ?_ | refine blk_alloc ?_ _)); exact BK292.out) hb); have n1_ := Aside0.mk (below_step (by repeat (first | (with_reducible first | exact HB.out | apply below_alloc | apply pw_below_drewN | apply below_drew1 | refine below_set ?_ GE292.out) | exact HB.out)) hb); have n2_ := Aside0.mk (hbox); have n3_ := Aside0.mk ((by rw [hg]; exact (below_size (by repeat (first | (with_reducible first | exact HB.out | apply below_alloc | apply pw_below_drewN | apply below_drew1 | refine below_set ?_ GE292.out) | exact HB.out))) : w.heap.size ≤ gb293)); have n4_ := Aside0.mk ((by rw [hg]; exact (below_size (by repeat (first | (with_reducible first | exact HB.out | apply below_alloc | apply pw_below_drewN | apply below_drew1 | refine below_set ?_ GE292.out) | exact HB.out))) : w.heap.size ≤ gb293)); have n5_ := Aside0.mk ((by rw [hg]; exact Nat.ne_of_lt (blk_lt (g := gb292) (o := .cells #[.string a0_0, .string a0_1] 51 (0, 0)) (by (with_reducible repeat (first | refine blk_drewN ?_ _ | refine blk_drew ?_ | refine blk_alloc ?_ _)); exact BK292.out)) : gb292 ≠ gb293)); have n6_ := Aside0.mk ((by rw [hg]; exact Nat.ne_of_gt (blk_lt (g := gb292) (o := .cells #[.string a0_0, .string a0_1] 51 (0, 0)) (by (with_reducible repeat (first | refine blk_drewN ?_ _ | refine blk_drew ?_ | refine blk_alloc ?_ _)); exact BK292.out)) : gb293 ≠ gb292)); clear BK292; clear HB; have BK292 := n0_; have HB := n1_; have BK293 := n2_; have GW293 := n3_; have GE293 := n4_; have NB292_293 := n5_; have NB293_292 := n6_; clear n0_ n1_ n2_ n3_ n4_ n5_ n6_; clear hb hbox hg; have hnb12 := NB292_293.out; have hnc12 := NB293_292.out; have hcz13_0 : w11.cell? ⟨gb292, 0, none⟩ = some (.string a0_0) := (blk_cell BK292.out 0).trans rfl; have hcz13_1 : w11.cell? ⟨gb292, 1, none⟩ = some (.string a0_1) := (blk_cell BK292.out 1).trans rfl; have hfz13_0 := blk_frozen BK292.out 0; have hfz13_1 := blk_frozen BK292.out 1; have hcz14_0 : w11.cell? ⟨gb293, 0, none⟩ = some (.string a1_0) := (blk_cell BK293.out 0).trans rfl; have hcz14_1 : w11.cell? ⟨gb293, 1, none⟩ = some (.string a1_1) := (blk_cell BK293.out 1).trans rfl; have hfz14_0 := blk_frozen BK293.out 0; have hfz14_1 := blk_frozen BK293.out 1))
      go_ret
      exact ⟨by first | rfl | (simp [errW_none, errW_some] <;> rfl) | (simp [*, errW_none, errW_some] <;> rfl), by repeat (first | (with_reducible first | exact HB.out | apply below_alloc | apply pw_below_drewN | apply below_drew1 | refine below_set ?_ GE292.out | refine below_set ?_ GE293.out) | exact HB.out)⟩
  · rw [if_neg c3] at H
    have c3b0 : (a0_0.toList == a1_0.toList) = false := beq_eq_false_iff_ne.mpr c3
    have c3b1 : (a0_0.toList != a1_0.toList) = true := bne_iff_ne.mpr c3
    obtain rfl := Option.some.inj H
    go_enter Try.func21, Try.ntmps21
    go_wp2_with (first | ((with_reducible refine gate_dst (N := 2) rfl ?_); refine box_event ?hg (N := 2) ?hd (cs := #[.string a0_0, .string a0_1]) (t := 51) ?hr ?_; (case hd => rfl); (case hg => rfl); (case hr => first | (go_simp; done) | (go_simp; rfl)); intro gb292 hg w15 hbox hb; have n0_ := Aside0.mk (below_step (by repeat (first | (with_reducible first | exact HB.out | apply below_alloc | apply pw_below_drewN | apply below_drew1) | exact HB.out)) hb); have n1_ := Aside0.mk (hbox); have n2_ := Aside0.mk ((by rw [hg]; exact (below_size (by repeat (first | (with_reducible first | exact HB.out | apply below_alloc | apply pw_below_drewN | apply below_drew1) | exact HB.out))) : w.heap.size ≤ gb292)); have n3_ := Aside0.mk ((by rw [hg]; exact (below_size (by repeat (first | (with_reducible first | exact HB.out | apply below_alloc | apply pw_below_drewN | apply below_drew1) | exact HB.out))) : w.heap.size ≤ gb292)); clear HB; have HB := n0_; have BK292 := n1_; have GW292 := n2_; have GE292 := n3_; clear n0_ n1_ n2_ n3_; clear hb hbox hg) | ((with_reducible refine gate_dst (N := 3) rfl ?_); refine box_event ?hg (N := 3) ?hd (cs := #[.string a1_0, .string a1_1]) (t := 51) ?hr ?_; (case hd => rfl); (case hg => rfl); (case hr => first | (go_simp; done) | (go_simp; rfl)); intro gb293 hg w16 hbox hb; have n0_ := Aside0.mk (blk_below (g := gb292) (o := .cells #[.string a0_0, .string a0_1] 51 (0, 0)) (by (with_reducible repeat (first | refine blk_drewN ?_ _ | refine blk_drew ?_ | refine blk_alloc ?_ _)); exact BK292.out) hb); have n1_ := Aside0.mk (below_step (by repeat (first | (with_reducible first | exact HB.out | apply below_alloc | apply pw_below_drewN | apply below_drew1 | refine below_set ?_ GE292.out) | exact HB.out)) hb); have n2_ := Aside0.mk (hbox); have n3_ := Aside0.mk ((by rw [hg]; exact (below_size (by repeat (first | (with_reducible first | exact HB.out | apply below_alloc | apply pw_below_drewN | apply below_drew1 | refine below_set ?_ GE292.out) | exact HB.out))) : w.heap.size ≤ gb293)); have n4_ := Aside0.mk ((by rw [hg]; exact (below_size (by repeat (first | (with_reducible first | exact HB.out | apply below_alloc | apply pw_below_drewN | apply below_drew1 | refine below_set ?_ GE292.out) | exact HB.out))) : w.heap.size ≤ gb293)); have n5_ := Aside0.mk ((by rw [hg]; exact Nat.ne_of_lt (blk_lt (g := gb292) (o := .cells #[.string a0_0, .string a0_1] 51 (0, 0)) (by (with_reducible repeat (first | refine blk_drewN ?_ _ | refine blk_drew ?_ | refine blk_alloc ?_ _)); exact BK292.out)) : gb292 ≠ gb293)); have n6_ := Aside0.mk ((by rw [hg]; exact Nat.ne_of_gt (blk_lt (g := gb292) (o := .cells #[.string a0_0, .string a0_1] 51 (0, 0)) (by (with_reducible repeat (first | refine blk_drewN ?_ _ | refine blk_drew ?_ | refine blk_alloc ?_ _)); exact BK292.out)) : gb293 ≠ gb292)); clear BK292; clear HB; have BK292 := n0_; have HB := n1_; have BK293 := n2_; have GW293 := n3_; have GE293 := n4_; have NB292_293 := n5_; have NB293_292 := n6_; clear n0_ n1_ n2_ n3_ n4_ n5_ n6_; clear hb hbox hg; have hnb17 := NB292_293.out; have hnc17 := NB293_292.out; have hcz18_0 : w16.cell? ⟨gb292, 0, none⟩ = some (.string a0_0) := (blk_cell BK292.out 0).trans rfl; have hcz18_1 : w16.cell? ⟨gb292, 1, none⟩ = some (.string a0_1) := (blk_cell BK292.out 1).trans rfl; have hfz18_0 := blk_frozen BK292.out 0; have hfz18_1 := blk_frozen BK292.out 1; have hcz19_0 : w16.cell? ⟨gb293, 0, none⟩ = some (.string a1_0) := (blk_cell BK293.out 0).trans rfl; have hcz19_1 : w16.cell? ⟨gb293, 1, none⟩ = some (.string a1_1) := (blk_cell BK293.out 1).trans rfl; have hfz19_0 := blk_frozen BK293.out 0; have hfz19_1 := blk_frozen BK293.out 1))
    go_ret
    exact ⟨by first | rfl | (simp [errW_none, errW_some] <;> rfl) | (simp [*, errW_none, errW_some] <;> rfl), by repeat (first | (with_reducible first | exact HB.out | apply below_alloc | apply pw_below_drewN | apply below_drew1 | refine below_set ?_ GE292.out | refine below_set ?_ GE293.out) | exact HB.out)⟩
def laws_eqPairS.l0 : Nat → List (S51) → List (S51) → Int → Option (Bool)
  | 0, _, _, _ => none
  | k + 1, x0, x1, x5 => if x5 < (x0.length : Int) then (if 0 ≤ x5 then (if x5 < (x1.length : Int) then ((laws_eqPair.f ((rd_T51 x0 x5).f0) ((rd_T51 x0 x5).f1) ((rd_T51 x1 x5).f0) ((rd_T51 x1 x5).f1)).bind fun t296 => (if t296 = true then (laws_eqPairS.l0 k x0 x1 (wrap64 (x5 + 1))) else (some false))) else (none)) else (none)) else (some true)
def laws_eqPairS.f (k : Nat) (l0 : List (S51)) (l1 : List (S51)) : Option (Bool) := if (l0.length : Int) = (l1.length : Int) then (laws_eqPairS.l0 k l0 l1 0) else (some false)
theorem laws_eqPairS.mono_l : ∀ k, (∀ y0 y1 y2, LeO (laws_eqPairS.l0 k y0 y1 y2) (laws_eqPairS.l0 (k + 1) y0 y1 y2))
  | 0 => fun _ _ _ r h => by simp [laws_eqPairS.l0] at h
  | k + 1 => by
    have ih0 := laws_eqPairS.mono_l k
    · intro y0 y1 y2
      unfold laws_eqPairS.l0
      repeat' first
      | (with_reducible exact ih0 _ _ _)
      | (with_reducible exact LeO.refl _)
      | (with_reducible exact LeO.none _)
      | (with_reducible refine LeO.ite ?_ ?_)
      | (with_reducible refine LeO.bind ?_ (fun _ => ?_))
      | exact ih0 _ _ _
      | exact LeO.none _
      | refine LeO.ite ?_ ?_
      | refine LeO.bind ?_ (fun _ => ?_)
theorem laws_eqPairS.mono : ∀ a0 a1 k, LeO (laws_eqPairS.f k a0 a1) (laws_eqPairS.f (k + 1) a0 a1) := by
  intro a0 a1 k
  have ih0 := laws_eqPairS.mono_l k
  unfold laws_eqPairS.f
  repeat' first
      | (with_reducible exact ih0 _ _ _)
      | (with_reducible exact LeO.refl _)
      | (with_reducible exact LeO.none _)
      | (with_reducible refine LeO.ite ?_ ?_)
      | (with_reducible refine LeO.bind ?_ (fun _ => ?_))
      | exact ih0 _ _ _
      | exact LeO.none _
      | refine LeO.ite ?_ ?_
      | refine LeO.bind ?_ (fun _ => ?_)
def laws_eqPairS.T6 : Bool × List (List Nat × List Nat) := (true, [([], []), ([], []), ([0, 1], [0, 1]), ([2], [2]), ([], []), ([], []), ([4, 5], [4, 5]), ([6], [6]), ([3, 7], [3, 7]), ([8], [8])])
def laws_eqPairS.B6 : List Nat := [0, 0, 3, 7, 0, 0, 48, 112, 255, 511]
theorem laws_eqPairS.tab6 : rtab .any (opsOf Try.f8 6) = laws_eqPairS.T6 := by kernel_rfl
theorem laws_eqPairS.bits6 : waitsOk laws_eqPairS.T6.2 laws_eqPairS.B6 = true := by kernel_rfl
set_option maxHeartbeats 8000000 in
set_option maxRecDepth 100000 in
theorem laws_eqPairS.calls (k : Nat) (A0 : Option Addr) (c0 : Nat) (l0 : List (S51)) (A1 : Option Addr) (c1 : Nat) (l1 : List (S51)) (r : Bool) (w : World) (hr0 : Kd.C k51 w A0 l0.length l0) (hc0 : l0.length ≤ c0) (hr1 : Kd.C k51 w A1 l1.length l1) (hc1 : l1.length ≤ c1) (h : laws_eqPairS.f k l0 l1 = some r) :
    Calls Try.prog 8 #[.slice A0 l0.length c0, .slice A1 l1.length c1] w fun e w' => e = .returned (.bool r) ∧ Below w.heap.size w w' := by
  have hu51 := Try.underlying51
  have HR0 := Aside0.mk hr0
  have HC0 := Aside0.mk hc0
  clear hr0 hc0
  have HR1 := Aside0.mk hr1
  have HC1 := Aside0.mk hc1
  clear hr1 hc1
  have HB := Aside0.mk (Below.refl w.heap.size w)
  have H : (if (l0.length : Int) = (l1.length : Int) then (laws_eqPairS.l0 k l0 l1 0) else (some false)) = some r := h
  clear h
  by_cases c3 : (l0.length : Int) = (l1.length : Int)
  · rw [if_pos c3] at H
    have c3b0 : ((l0.length : Int) == (l1.length : Int)) = true := beq_iff_eq.mpr c3
    have c3b1 : ((l0.length : Int) != (l1.length : Int)) = false := bne_eq_false_iff_eq.mpr c3
    have c3b2 : (l0.length == l1.length) = true := by first | simpa using c3 | (simp at c3 ⊢; omega)
    clear c3
    have H' := Aside0.mk H
    clear H
    go_enter Try.func8, Try.ntmps8
    go_wp2
    go_loopg [5] k (fun kq v5 w' => ∃ (x5_1 : Int), v5 = .int .i64 x5_1 ∧ Aside0 (laws_eqPairS.l0 kq l0 l1 x5_1 = some r) ∧ Aside0 (kq ≤ k) ∧ Aside0 (Below w.heap.size w w'))
    case atStart => exact ⟨(0), (by first | rfl | (simp; done) | (simp [*]; done)), H', ⟨Nat.le_refl _⟩, ⟨by repeat (first | (with_reducible first | exact HB.out | apply below_alloc | apply pw_below_drewN | apply below_drew1) | exact HB.out)⟩⟩
    case round =>
      clear H'
      try clear c1
      try clear p2
      try clear c3
      try clear c3b0
      try clear c3b1
      try clear c3b2
      obtain ⟨x5_1, rfl, HA, HK1, HB⟩ := hrel
      cases gk with
      | zero => exact absurd HA.out (by simp [laws_eqPairS.l0])
      | succ k1 =>
        have H := HA.out
        clear HA
        simp only [laws_eqPairS.l0] at H
        by_cases c4 : x5_1 < (l0.length : Int)
        · rw [if_pos c4] at H
          have c4b0 : decide (x5_1 < (l0.length : Int)) = true := decide_eq_true c4
          clear c4
          by_cases c5 : 0 ≤ x5_1
          · rw [if_pos c5] at H
            have c5b0 : decide (0 ≤ x5_1) = true := decide_eq_true c5
            clear c5
            by_cases c6 : x5_1 < (l1.length : Int)
            · rw [if_pos c6] at H
              have c6b0 : decide (x5_1 < (l1.length : Int)) = true := decide_eq_true c6
              clear c6
              replace H := Option.bind_eq_some_iff.mp H
              obtain ⟨t296, A70, H⟩ := H
              replace H : (if t296 = true then (laws_eqPairS.l0 k1 l0 l1 (wrap64 (x5_1 + 1))) else (some false)) = some r := H
              have A7 := Aside0.mk A70
              clear A70
              by_cases c8 : t296 = true
              · subst c8
                have H1 : (laws_eqPairS.l0 k1 l0 l1 (wrap64 (x5_1 + 1))) = some r := by rw [if_pos rfl] at H; exact H
                clear H
                have H := H1
                clear H1
                have H' := Aside0.mk H
                clear H
                try go_wp2
                have n0_ := Aside0.mk (below_drew1 HB.out)
                clear HB
                have HB := n0_
                clear n0_
                have p294 : 0 ≤ (x5_1 : Int) := of_decide_eq_true (by first | (with_reducible assumption) | assumption)
                have q294 : x5_1 < (l0.length : Int) := of_decide_eq_true (by first | (with_reducible assumption) | assumption)
                obtain ⟨ad294, e294, hx294_0, hx294_1⟩ := at_T51 HR0.out x5_1 p294 q294
                have hw294_1 := hx294_1
                have hw294_0 := hx294_0
                cases e294
                replace hx294_0 := (HB.out.cell (World.block_lt_of_cell? w _ hx294_0)).trans hx294_0
                replace hx294_1 := (HB.out.cell (World.block_lt_of_cell? w _ hx294_1)).trans hx294_1
                replace p294 := eq_true p294
                replace q294 := eq_true q294
                have p295 : 0 ≤ (x5_1 : Int) := of_decide_eq_true (by first | (with_reducible assumption) | assumption)
                have q295 : x5_1 < (l1.length : Int) := of_decide_eq_true (by first | (with_reducible assumption) | assumption)
                obtain ⟨ad295, e295, hx295_0, hx295_1⟩ := at_T51 HR1.out x5_1 p295 q295
                have hw295_1 := hx295_1
                have hw295_0 := hx295_0
                cases e295
                replace hx295_0 := (HB.out.cell (World.block_lt_of_cell? w _ hx295_0)).trans hx295_0
                replace hx295_1 := (HB.out.cell (World.block_lt_of_cell? w _ hx295_1)).trans hx295_1
                replace p295 := eq_true p295
                replace q295 := eq_true q295
                refine start_ (n := 10) (S := fun w' => w'.cell? (ad294.add ((x5_1).toNat * 2)) = some (.string ((rd_T51 l0 x5_1).f0)) ∧ w'.cell? ⟨(ad294.add ((x5_1).toNat * 2)).block, (ad294.add ((x5_1).toNat * 2)).off + 1, none⟩ = some (.string ((rd_T51 l0 x5_1).f1)) ∧ w'.cell? (ad295.add ((x5_1).toNat * 2)) = some (.string ((rd_T51 l1 x5_1).f0)) ∧ w'.cell? ⟨(ad295.add ((x5_1).toNat * 2)).block, (ad295.add ((x5_1).toNat * 2)).off + 1, none⟩ = some (.string ((rd_T51 l1 x5_1).f1))) (ds := []) #[false, false, false, false, false, false, false, false, false, false] (by kernel_rfl) rfl rfl ⟨((HB.out.cell (World.block_lt_of_cell? w _ hw294_0)).trans hw294_0), ((HB.out.cell (World.block_lt_of_cell? w _ hw294_1)).trans hw294_1), ((HB.out.cell (World.block_lt_of_cell? w _ hw295_0)).trans hw295_0), ((HB.out.cell (World.block_lt_of_cell? w _ hw295_1)).trans hw295_1)⟩ (fun hHeld => ?_); refine with_tabW laws_eqPairS.tab6 laws_eqPairS.bits6 (fun HT_ HW_ => ?_)
                generalize wr.drew = w9 at HB hx294_0 hx294_1 hx295_0 hx295_1 hHeld ⊢
                refine pure_ (i := 0) (N := some 17) (v := ?_) (a' := ?_) #[true, false, false, false, false, false, false, false, false, false] rfl rfl (any_of HT_.out (by kernel_rfl)) (fun _ _ _ h => h) (Or.inl ⟨by rfl, ?_⟩) ?_ ?_
                rotate_left
                · intro w'
                  go_simp
                  with_reducible rfl
                rotate_left
                · simp only [Act.put, List.setIfInBounds_toArray, List.set_cons_zero, List.set_cons_succ, i64_w, i32_w]
                  rfl
                refine pure_ (i := 1) (N := some 18) (v := ?_) (a' := ?_) #[true, true, false, false, false, false, false, false, false, false] rfl rfl (any_of HT_.out (by kernel_rfl)) (fun _ _ _ h => h) (Or.inl ⟨by rfl, ?_⟩) ?_ ?_
                rotate_left
                · intro w'
                  go_simp
                  with_reducible rfl
                rotate_left
                · simp only [Act.put, List.setIfInBounds_toArray, List.set_cons_zero, List.set_cons_succ, i64_w, i32_w]
                  rfl
                refine pure_ (i := 2) (N := some 19) (v := ?_) (a' := ?_) #[true, true, true, false, false, false, false, false, false, false] rfl rfl (any_of HT_.out (by kernel_rfl)) (fun _ _ _ h => h) (Or.inl ⟨by rfl, ?_⟩) ?_ ?_
                rotate_left
                · intro w'
                  go_simp
                  with_reducible rfl
                rotate_left
                · simp only [Act.put, List.setIfInBounds_toArray, List.set_cons_zero, List.set_cons_succ, i64_w, i32_w]
                  rfl
                refine pure_ (i := 4) (N := some 21) (v := ?_) (a' := ?_) #[true, true, true, false, true, false, false, false, false, false] rfl rfl (any_of HT_.out (by kernel_rfl)) (fun _ _ _ h => h) (Or.inl ⟨by rfl, ?_⟩) ?_ ?_
                rotate_left
                · intro w'
                  go_simp
                  with_reducible rfl
                rotate_left
                · simp only [Act.put, List.setIfInBounds_toArray, List.set_cons_zero, List.set_cons_succ, i64_w, i32_w]
                  rfl
                refine pure_ (i := 5) (N := some 22) (v := ?_) (a' := ?_) #[true, true, true, false, true, true, false, false, false, false] rfl rfl (any_of HT_.out (by kernel_rfl)) (fun _ _ _ h => h) (Or.inl ⟨by rfl, ?_⟩) ?_ ?_
                rotate_left
                · intro w'
                  go_simp
                  with_reducible rfl
                rotate_left
                · simp only [Act.put, List.setIfInBounds_toArray, List.set_cons_zero, List.set_cons_succ, i64_w, i32_w]
                  rfl
                refine pure_ (i := 6) (N := some 23) (v := ?_) (a' := ?_) #[true, true, true, false, true, true, true, false, false, false] rfl rfl (any_of HT_.out (by kernel_rfl)) (fun _ _ _ h => h) (Or.inl ⟨by rfl, ?_⟩) ?_ ?_
                rotate_left
                · intro w'
                  go_simp
                  with_reducible rfl
                rotate_left
                · simp only [Act.put, List.setIfInBounds_toArray, List.set_cons_zero, List.set_cons_succ, i64_w, i32_w]
                  rfl
                refine take_ (i := 3) (N := some 20) (v := ?_) (a' := ?_) #[true, true, true, true, true, true, true, false, false, false] rfl rfl (take_ofW HT_.out HW_.out (by kernel_rfl)) (fun _ _ _ h => h) (Or.inl ⟨by rfl, ?_⟩) hHeld ?_ ?_
                rotate_left
                · rintro w' ⟨s0, s1, s2, s3⟩
                  go_simp
                  with_reducible rfl
                rotate_left
                · simp only [Act.put, List.setIfInBounds_toArray, List.set_cons_zero, List.set_cons_succ, i64_w, i32_w]
                  rfl
                refine take_ (i := 7) (N := some 24) (v := ?_) (a' := ?_) #[true, true, true, true, true, true, true, true, false, false] rfl rfl (take_ofW HT_.out HW_.out (by kernel_rfl)) (fun _ _ _ h => h) (Or.inl ⟨by rfl, ?_⟩) hHeld ?_ ?_
                rotate_left
                · rintro w' ⟨s0, s1, s2, s3⟩
                  go_simp
                  with_reducible rfl
                rotate_left
                · simp only [Act.put, List.setIfInBounds_toArray, List.set_cons_zero, List.set_cons_succ, i64_w, i32_w]
                  rfl
                refine one_ (i := 8) (N := some 25) #[true, true, true, true, true, true, true, true, true, false] rfl rfl (one_of HT_.out (by kernel_rfl)) (by decide) (fun K hK => ?_)
                refine goes_ Try.func21 (by kernel_rfl) rfl #[.agg #[.string ((rd_T51 l0 x5_1).f0), .string ((rd_T51 l0 x5_1).f1)], .agg #[.string ((rd_T51 l1 x5_1).f0), .string ((rd_T51 l1 x5_1).f1)]] (by rfl) rfl rfl (by (try simp only [List.map_toArray, List.map_cons, List.map_nil]); first | done | rfl | (simp only [List.length_drop, List.length_take]; rfl)) ?_
                with_reducible refine (laws_eqPair.calls ((rd_T51 l0 x5_1).f0) ((rd_T51 l0 x5_1).f1) ((rd_T51 l1 x5_1).f0) ((rd_T51 l1 x5_1).f1) true _ A7.out).mono ?_
                rintro e w10 ⟨rfl, hb⟩
                refine ⟨_, rfl, ?_⟩
                have n0_ := Aside0.mk (below_step (by repeat (first | (with_reducible first | exact HB.out | apply below_alloc | apply pw_below_drewN | apply below_drew1) | exact HB.out)) hb)
                clear HB
                have HB := n0_
                clear n0_
                (try clear hb)
                (try clear hb2)
                (try clear hk)
                (try clear hi)
                refine hK.out _ _ ⟨((HB.out.cell (World.block_lt_of_cell? w _ hw294_0)).trans hw294_0), ((HB.out.cell (World.block_lt_of_cell? w _ hw294_1)).trans hw294_1), ((HB.out.cell (World.block_lt_of_cell? w _ hw295_0)).trans hw295_0), ((HB.out.cell (World.block_lt_of_cell? w _ hw295_1)).trans hw295_1)⟩ (fun hHeld => ?_)
                clear hK K
                refine norm_ (a' := ?_) ?_ ?_
                rotate_left
                · show Act.put _ (some 25) _ = _
                  simp only [Act.put, List.setIfInBounds_toArray, List.set_cons_zero, List.set_cons_succ, i64_w, i32_w]
                  rfl
                refine pure_ (i := 9) (N := some 26) (v := ?_) (a' := ?_) #[true, true, true, true, true, true, true, true, true, true] rfl rfl (any_of HT_.out (by kernel_rfl)) (fun _ _ _ h => h) (Or.inl ⟨by rfl, ?_⟩) ?_ ?_
                rotate_left
                · intro w'
                  go_simp
                  with_reducible rfl
                rotate_left
                · simp only [Act.put, List.setIfInBounds_toArray, List.set_cons_zero, List.set_cons_succ, i64_w, i32_w]
                  rfl
                refine done_ (done_of HT_.out (by kernel_rfl)) ?_
                try go_wp2
                go_roundg k1
                case measure => have := HK1.out; omega
                case rel => exact ⟨(wrap64 (x5_1 + 1)), (by first | rfl | (simp; done) | (simp [*]; done)), H', ⟨by have := HK1.out; omega⟩, ⟨by repeat (first | (with_reducible first | exact HB.out | apply below_alloc | apply pw_below_drewN | apply below_drew1) | exact HB.out)⟩⟩
              · replace c8 := Bool.eq_false_iff.mpr c8
                subst c8
                have H1 : (some false) = some r := by rw [if_neg (show ¬ (false = true) by decide)] at H; exact H
                clear H
                have H := H1
                clear H1
                obtain rfl := Option.some.inj H
                try go_wp2
                have n0_ := Aside0.mk (below_drew1 HB.out)
                clear HB
                have HB := n0_
                clear n0_
                have p294 : 0 ≤ (x5_1 : Int) := of_decide_eq_true (by first | (with_reducible assumption) | assumption)
                have q294 : x5_1 < (l0.length : Int) := of_decide_eq_true (by first | (with_reducible assumption) | assumption)
                obtain ⟨ad294, e294, hx294_0, hx294_1⟩ := at_T51 HR0.out x5_1 p294 q294
                have hw294_1 := hx294_1
                have hw294_0 := hx294_0
                cases e294
                replace hx294_0 := (HB.out.cell (World.block_lt_of_cell? w _ hx294_0)).trans hx294_0
                replace hx294_1 := (HB.out.cell (World.block_lt_of_cell? w _ hx294_1)).trans hx294_1
                replace p294 := eq_true p294
                replace q294 := eq_true q294
                have p295 : 0 ≤ (x5_1 : Int) := of_decide_eq_true (by first | (with_reducible assumption) | assumption)
                have q295 : x5_1 < (l1.length : Int) := of_decide_eq_true (by first | (with_reducible assumption) | assumption)
                obtain ⟨ad295, e295, hx295_0, hx295_1⟩ := at_T51 HR1.out x5_1 p295 q295
                have hw295_1 := hx295_1
                have hw295_0 := hx295_0
                cases e295
                replace hx295_0 := (HB.out.cell (World.block_lt_of_cell? w _ hx295_0)).trans hx295_0
                replace hx295_1 := (HB.out.cell (World.block_lt_of_cell? w _ hx295_1)).trans hx295_1
                replace p295 := eq_true p295
                replace q295 := eq_true q295
                refine start_ (n := 10) (S := fun w' => w'.cell? (ad294.add ((x5_1).toNat * 2)) = some (.string ((rd_T51 l0 x5_1).f0)) ∧ w'.cell? ⟨(ad294.add ((x5_1).toNat * 2)).block, (ad294.add ((x5_1).toNat * 2)).off + 1, none⟩ = some (.string ((rd_T51 l0 x5_1).f1)) ∧ w'.cell? (ad295.add ((x5_1).toNat * 2)) = some (.string ((rd_T51 l1 x5_1).f0)) ∧ w'.cell? ⟨(ad295.add ((x5_1).toNat * 2)).block, (ad295.add ((x5_1).toNat * 2)).off + 1, none⟩ = some (.string ((rd_T51 l1 x5_1).f1))) (ds := []) #[false, false, false, false, false, false, false, false, false, false] (by kernel_rfl) rfl rfl ⟨((HB.out.cell (World.block_lt_of_cell? w _ hw294_0)).trans hw294_0), ((HB.out.cell (World.block_lt_of_cell? w _ hw294_1)).trans hw294_1), ((HB.out.cell (World.block_lt_of_cell? w _ hw295_0)).trans hw295_0), ((HB.out.cell (World.block_lt_of_cell? w _ hw295_1)).trans hw295_1)⟩ (fun hHeld => ?_); refine with_tabW laws_eqPairS.tab6 laws_eqPairS.bits6 (fun HT_ HW_ => ?_)
                generalize wr.drew = w11 at HB hx294_0 hx294_1 hx295_0 hx295_1 hHeld ⊢
                refine pure_ (i := 0) (N := some 17) (v := ?_) (a' := ?_) #[true, false, false, false, false, false, false, false, false, false] rfl rfl (any_of HT_.out (by kernel_rfl)) (fun _ _ _ h => h) (Or.inl ⟨by rfl, ?_⟩) ?_ ?_
                rotate_left
                · intro w'
                  go_simp
                  with_reducible rfl
                rotate_left
                · simp only [Act.put, List.setIfInBounds_toArray, List.set_cons_zero, List.set_cons_succ, i64_w, i32_w]
                  rfl
                refine pure_ (i := 1) (N := some 18) (v := ?_) (a' := ?_) #[true, true, false, false, false, false, false, false, false, false] rfl rfl (any_of HT_.out (by kernel_rfl)) (fun _ _ _ h => h) (Or.inl ⟨by rfl, ?_⟩) ?_ ?_
                rotate_left
                · intro w'
                  go_simp
                  with_reducible rfl
                rotate_left
                · simp only [Act.put, List.setIfInBounds_toArray, List.set_cons_zero, List.set_cons_succ, i64_w, i32_w]
                  rfl
                refine pure_ (i := 2) (N := some 19) (v := ?_) (a' := ?_) #[true, true, true, false, false, false, false, false, false, false] rfl rfl (any_of HT_.out (by kernel_rfl)) (fun _ _ _ h => h) (Or.inl ⟨by rfl, ?_⟩) ?_ ?_
                rotate_left
                · intro w'
                  go_simp
                  with_reducible rfl
                rotate_left
                · simp only [Act.put, List.setIfInBounds_toArray, List.set_cons_zero, List.set_cons_succ, i64_w, i32_w]
                  rfl
                refine pure_ (i := 4) (N := some 21) (v := ?_) (a' := ?_) #[true, true, true, false, true, false, false, false, false, false] rfl rfl (any_of HT_.out (by kernel_rfl)) (fun _ _ _ h => h) (Or.inl ⟨by rfl, ?_⟩) ?_ ?_
                rotate_left
                · intro w'
                  go_simp
                  with_reducible rfl
                rotate_left
                · simp only [Act.put, List.setIfInBounds_toArray, List.set_cons_zero, List.set_cons_succ, i64_w, i32_w]
                  rfl
                refine pure_ (i := 5) (N := some 22) (v := ?_) (a' := ?_) #[true, true, true, false, true, true, false, false, false, false] rfl rfl (any_of HT_.out (by kernel_rfl)) (fun _ _ _ h => h) (Or.inl ⟨by rfl, ?_⟩) ?_ ?_
                rotate_left
                · intro w'
                  go_simp
                  with_reducible rfl
                rotate_left
                · simp only [Act.put, List.setIfInBounds_toArray, List.set_cons_zero, List.set_cons_succ, i64_w, i32_w]
                  rfl
                refine pure_ (i := 6) (N := some 23) (v := ?_) (a' := ?_) #[true, true, true, false, true, true, true, false, false, false] rfl rfl (any_of HT_.out (by kernel_rfl)) (fun _ _ _ h => h) (Or.inl ⟨by rfl, ?_⟩) ?_ ?_
                rotate_left
                · intro w'
                  go_simp
                  with_reducible rfl
                rotate_left
                · simp only [Act.put, List.setIfInBounds_toArray, List.set_cons_zero, List.set_cons_succ, i64_w, i32_w]
                  rfl
                refine take_ (i := 3) (N := some 20) (v := ?_) (a' := ?_) #[true, true, true, true, true, true, true, false, false, false] rfl rfl (take_ofW HT_.out HW_.out (by kernel_rfl)) (fun _ _ _ h => h) (Or.inl ⟨by rfl, ?_⟩) hHeld ?_ ?_
                rotate_left
                · rintro w' ⟨s0, s1, s2, s3⟩
                  go_simp
                  with_reducible rfl
                rotate_left
                · simp only [Act.put, List.setIfInBounds_toArray, List.set_cons_zero, List.set_cons_succ, i64_w, i32_w]
                  rfl
                refine take_ (i := 7) (N := some 24) (v := ?_) (a' := ?_) #[true, true, true, true, true, true, true, true, false, false] rfl rfl (take_ofW HT_.out HW_.out (by kernel_rfl)) (fun _ _ _ h => h) (Or.inl ⟨by rfl, ?_⟩) hHeld ?_ ?_
                rotate_left
                · rintro w' ⟨s0, s1, s2, s3⟩
                  go_simp
                  with_reducible rfl
                rotate_left
                · simp only [Act.put, List.setIfInBounds_toArray, List.set_cons_zero, List.set_cons_succ, i64_w, i32_w]
                  rfl
                refine one_ (i := 8) (N := some 25) #[true, true, true, true, true, true, true, true, true, false] rfl rfl (one_of HT_.out (by kernel_rfl)) (by decide) (fun K hK => ?_)
                refine goes_ Try.func21 (by kernel_rfl) rfl #[.agg #[.string ((rd_T51 l0 x5_1).f0), .string ((rd_T51 l0 x5_1).f1)], .agg #[.string ((rd_T51 l1 x5_1).f0), .string ((rd_T51 l1 x5_1).f1)]] (by rfl) rfl rfl (by (try simp only [List.map_toArray, List.map_cons, List.map_nil]); first | done | rfl | (simp only [List.length_drop, List.length_take]; rfl)) ?_
                with_reducible refine (laws_eqPair.calls ((rd_T51 l0 x5_1).f0) ((rd_T51 l0 x5_1).f1) ((rd_T51 l1 x5_1).f0) ((rd_T51 l1 x5_1).f1) false _ A7.out).mono ?_
                rintro e w12 ⟨rfl, hb⟩
                refine ⟨_, rfl, ?_⟩
                have n0_ := Aside0.mk (below_step (by repeat (first | (with_reducible first | exact HB.out | apply below_alloc | apply pw_below_drewN | apply below_drew1) | exact HB.out)) hb)
                clear HB
                have HB := n0_
                clear n0_
                (try clear hb)
                (try clear hb2)
                (try clear hk)
                (try clear hi)
                refine hK.out _ _ ⟨((HB.out.cell (World.block_lt_of_cell? w _ hw294_0)).trans hw294_0), ((HB.out.cell (World.block_lt_of_cell? w _ hw294_1)).trans hw294_1), ((HB.out.cell (World.block_lt_of_cell? w _ hw295_0)).trans hw295_0), ((HB.out.cell (World.block_lt_of_cell? w _ hw295_1)).trans hw295_1)⟩ (fun hHeld => ?_)
                clear hK K
                refine norm_ (a' := ?_) ?_ ?_
                rotate_left
                · show Act.put _ (some 25) _ = _
                  simp only [Act.put, List.setIfInBounds_toArray, List.set_cons_zero, List.set_cons_succ, i64_w, i32_w]
                  rfl
                refine pure_ (i := 9) (N := some 26) (v := ?_) (a' := ?_) #[true, true, true, true, true, true, true, true, true, true] rfl rfl (any_of HT_.out (by kernel_rfl)) (fun _ _ _ h => h) (Or.inl ⟨by rfl, ?_⟩) ?_ ?_
                rotate_left
                · intro w'
                  go_simp
                  with_reducible rfl
                rotate_left
                · simp only [Act.put, List.setIfInBounds_toArray, List.set_cons_zero, List.set_cons_succ, i64_w, i32_w]
                  rfl
                refine done_ (done_of HT_.out (by kernel_rfl)) ?_
                try go_wp2
                go_ret
                exact ⟨by first | rfl | (simp [errW_none, errW_some] <;> rfl) | (simp [*, errW_none, errW_some] <;> rfl), by repeat (first | (with_reducible first | exact HB.out | apply below_alloc | apply pw_below_drewN | apply below_drew1) | exact HB.out)⟩
            · rw [if_neg c6] at H
              exact absurd H (by simp)
          · rw [if_neg c5] at H
            exact absurd H (by simp)
        · rw [if_neg c4] at H
          have c4b0 : decide (x5_1 < (l0.length : Int)) = false := decide_eq_false c4
          clear c4
          obtain rfl := Option.some.inj H
          go_wp2
          go_ret
          exact ⟨by first | rfl | (simp [errW_none, errW_some] <;> rfl) | (simp [*, errW_none, errW_some] <;> rfl), by repeat (first | (with_reducible first | exact HB.out | apply below_alloc | apply pw_below_drewN | apply below_drew1) | exact HB.out)⟩
  · rw [if_neg c3] at H
    have c3b0 : ((l0.length : Int) == (l1.length : Int)) = false := beq_eq_false_iff_ne.mpr c3
    have c3b1 : ((l0.length : Int) != (l1.length : Int)) = true := bne_iff_ne.mpr c3
    have c3b2 : (l0.length == l1.length) = false := by first | simpa using c3 | (simp at c3 ⊢; omega)
    obtain rfl := Option.some.inj H
    go_enter Try.func8, Try.ntmps8
    go_wp2
    go_ret
    exact ⟨by first | rfl | (simp [errW_none, errW_some] <;> rfl) | (simp [*, errW_none, errW_some] <;> rfl), by repeat (first | (with_reducible first | exact HB.out | apply below_alloc | apply pw_below_drewN | apply below_drew1) | exact HB.out)⟩
def laws_eqByteS.l0 : Nat → List Int → List Int → Int → Option (Bool)
  | 0, _, _, _ => none
  | k + 1, x0, x1, x5 => if x5 < (x0.length : Int) then (if 0 ≤ x5 then (if x5 < (x1.length : Int) then (if (rd x0 x5) = (rd x1 x5) then (laws_eqByteS.l0 k x0 x1 (wrap64 (x5 + 1))) else (some false)) else (none)) else (none)) else (some true)
def laws_eqByteS.f (k : Nat) (l0 : List Int) (l1 : List Int) : Option (Bool) := if (l0.length : Int) = (l1.length : Int) then (laws_eqByteS.l0 k l0 l1 0) else (some false)
theorem laws_eqByteS.mono_l : ∀ k, (∀ y0 y1 y2, LeO (laws_eqByteS.l0 k y0 y1 y2) (laws_eqByteS.l0 (k + 1) y0 y1 y2))
  | 0 => fun _ _ _ r h => by simp [laws_eqByteS.l0] at h
  | k + 1 => by
    have ih0 := laws_eqByteS.mono_l k
    · intro y0 y1 y2
      unfold laws_eqByteS.l0
      repeat' first
      | (with_reducible exact ih0 _ _ _)
      | (with_reducible exact LeO.refl _)
      | (with_reducible exact LeO.none _)
      | (with_reducible refine LeO.ite ?_ ?_)
      | (with_reducible refine LeO.bind ?_ (fun _ => ?_))
      | exact ih0 _ _ _
      | exact LeO.none _
      | refine LeO.ite ?_ ?_
      | refine LeO.bind ?_ (fun _ => ?_)
theorem laws_eqByteS.mono : ∀ a0 a1 k, LeO (laws_eqByteS.f k a0 a1) (laws_eqByteS.f (k + 1) a0 a1) := by
  intro a0 a1 k
  have ih0 := laws_eqByteS.mono_l k
  unfold laws_eqByteS.f
  repeat' first
      | (with_reducible exact ih0 _ _ _)
      | (with_reducible exact LeO.refl _)
      | (with_reducible exact LeO.none _)
      | (with_reducible refine LeO.ite ?_ ?_)
      | (with_reducible refine LeO.bind ?_ (fun _ => ?_))
      | exact ih0 _ _ _
      | exact LeO.none _
      | refine LeO.ite ?_ ?_
      | refine LeO.bind ?_ (fun _ => ?_)
set_option maxHeartbeats 8000000 in
set_option maxRecDepth 100000 in
theorem laws_eqByteS.calls (k : Nat) (A0 : Option Addr) (c0 : Nat) (l0 : List Int) (A1 : Option Addr) (c1 : Nat) (l1 : List Int) (r : Bool) (w : World) (hr0 : Kd.C (Kd.int .u8) w A0 l0.length l0) (hc0 : l0.length ≤ c0) (hr1 : Kd.C (Kd.int .u8) w A1 l1.length l1) (hc1 : l1.length ≤ c1) (h : laws_eqByteS.f k l0 l1 = some r) :
    Calls Try.prog 22 #[.slice A0 l0.length c0, .slice A1 l1.length c1] w fun e w' => e = .returned (.bool r) ∧ Drawn0 w w' := by
  have HR0 := Aside0.mk hr0
  have HC0 := Aside0.mk hc0
  clear hr0 hc0
  have HR1 := Aside0.mk hr1
  have HC1 := Aside0.mk hc1
  clear hr1 hc1
  have H : (if (l0.length : Int) = (l1.length : Int) then (laws_eqByteS.l0 k l0 l1 0) else (some false)) = some r := h
  clear h
  by_cases c3 : (l0.length : Int) = (l1.length : Int)
  · rw [if_pos c3] at H
    have c3b0 : ((l0.length : Int) == (l1.length : Int)) = true := beq_iff_eq.mpr c3
    have c3b1 : ((l0.length : Int) != (l1.length : Int)) = false := bne_eq_false_iff_eq.mpr c3
    have c3b2 : (l0.length == l1.length) = true := by first | simpa using c3 | (simp at c3 ⊢; omega)
    clear c3
    have H' := Aside0.mk H
    clear H
    go_enter Try.func22, Try.ntmps22
    go_wp2
    repeat (go_quiet (fail); try go_wp2)
    go_loopg [5] k (fun kq v5 w' => ∃ (x5_1 : Int), v5 = .int .i64 x5_1 ∧ Aside0 (laws_eqByteS.l0 kq l0 l1 x5_1 = some r) ∧ Aside0 (kq ≤ k) ∧ Drawn0 w w')
    case atStart => exact ⟨(0), (by first | rfl | (simp; done) | (simp [*]; done)), H', ⟨Nat.le_refl _⟩, by repeat (first | exact Drawn0.refl _ | apply Drawn0.step)⟩
    case round =>
      clear H'
      try clear c1
      try clear c2
      try clear p2
      try clear c3
      try clear c3b0
      try clear c3b1
      try clear c3b2
      obtain ⟨x5_1, rfl, HA, HK1, ⟨m1, rfl⟩⟩ := hrel
      cases gk with
      | zero => exact absurd HA.out (by simp [laws_eqByteS.l0])
      | succ k1 =>
        have H := HA.out
        clear HA
        simp only [laws_eqByteS.l0] at H
        by_cases c4 : x5_1 < (l0.length : Int)
        · rw [if_pos c4] at H
          have c4b0 : decide (x5_1 < (l0.length : Int)) = true := decide_eq_true c4
          clear c4
          by_cases c5 : 0 ≤ x5_1
          · rw [if_pos c5] at H
            have c5b0 : decide (0 ≤ x5_1) = true := decide_eq_true c5
            clear c5
            by_cases c6 : x5_1 < (l1.length : Int)
            · rw [if_pos c6] at H
              have c6b0 : decide (x5_1 < (l1.length : Int)) = true := decide_eq_true c6
              clear c6
              by_cases c7 : (rd l0 x5_1) = (rd l1 x5_1)
              · rw [if_pos c7] at H
                have c7b0 : ((rd l0 x5_1) == (rd l1 x5_1)) = true := beq_iff_eq.mpr c7
                have c7b1 : ((rd l0 x5_1) != (rd l1 x5_1)) = false := bne_eq_false_iff_eq.mpr c7
                clear c7
                have H' := Aside0.mk H
                clear H
                have p297 : 0 ≤ (x5_1 : Int) := of_decide_eq_true (by first | (with_reducible assumption) | assumption)
                have q297 : x5_1 < (l0.length : Int) := of_decide_eq_true (by first | (with_reducible assumption) | assumption)
                obtain ⟨ad297, e297, hx297_0⟩ := Kd.at_int HR0.out x5_1 p297 q297
                cases e297
                replace p297 := eq_true p297
                replace q297 := eq_true q297
                have p298 : 0 ≤ (x5_1 : Int) := of_decide_eq_true (by first | (with_reducible assumption) | assumption)
                have q298 : x5_1 < (l1.length : Int) := of_decide_eq_true (by first | (with_reducible assumption) | assumption)
                obtain ⟨ad298, e298, hx298_0⟩ := Kd.at_int HR1.out x5_1 p298 q298
                cases e298
                replace p298 := eq_true p298
                replace q298 := eq_true q298
                go_wp2
                repeat (go_quiet (fail); try go_wp2)
                go_roundg k1
                case measure => have := HK1.out; omega
                case rel => exact ⟨(wrap64 (x5_1 + 1)), (by first | rfl | (simp; done) | (simp [*]; done)), H', ⟨by have := HK1.out; omega⟩, by repeat (first | exact Drawn0.refl _ | apply Drawn0.step)⟩
              · rw [if_neg c7] at H
                have c7b0 : ((rd l0 x5_1) == (rd l1 x5_1)) = false := beq_eq_false_iff_ne.mpr c7
                have c7b1 : ((rd l0 x5_1) != (rd l1 x5_1)) = true := bne_iff_ne.mpr c7
                obtain rfl := Option.some.inj H
                have p297 : 0 ≤ (x5_1 : Int) := of_decide_eq_true (by first | (with_reducible assumption) | assumption)
                have q297 : x5_1 < (l0.length : Int) := of_decide_eq_true (by first | (with_reducible assumption) | assumption)
                obtain ⟨ad297, e297, hx297_0⟩ := Kd.at_int HR0.out x5_1 p297 q297
                cases e297
                replace p297 := eq_true p297
                replace q297 := eq_true q297
                have p298 : 0 ≤ (x5_1 : Int) := of_decide_eq_true (by first | (with_reducible assumption) | assumption)
                have q298 : x5_1 < (l1.length : Int) := of_decide_eq_true (by first | (with_reducible assumption) | assumption)
                obtain ⟨ad298, e298, hx298_0⟩ := Kd.at_int HR1.out x5_1 p298 q298
                cases e298
                replace p298 := eq_true p298
                replace q298 := eq_true q298
                go_wp2
                repeat (go_quiet (fail); try go_wp2)
                go_ret
                exact ⟨by first | rfl | (simp; done) | (simp [*]; done), by repeat (first | exact Drawn0.refl _ | apply Drawn0.step)⟩
            · rw [if_neg c6] at H
              exact absurd H (by simp)
          · rw [if_neg c5] at H
            exact absurd H (by simp)
        · rw [if_neg c4] at H
          have c4b0 : decide (x5_1 < (l0.length : Int)) = false := decide_eq_false c4
          clear c4
          obtain rfl := Option.some.inj H
          go_wp2
          repeat (go_quiet (fail); try go_wp2)
          go_ret
          exact ⟨by first | rfl | (simp; done) | (simp [*]; done), by repeat (first | exact Drawn0.refl _ | apply Drawn0.step)⟩
  · rw [if_neg c3] at H
    have c3b0 : ((l0.length : Int) == (l1.length : Int)) = false := beq_eq_false_iff_ne.mpr c3
    have c3b1 : ((l0.length : Int) != (l1.length : Int)) = true := bne_iff_ne.mpr c3
    have c3b2 : (l0.length == l1.length) = false := by first | simpa using c3 | (simp at c3 ⊢; omega)
    obtain rfl := Option.some.inj H
    go_enter Try.func22, Try.ntmps22
    go_wp2
    repeat (go_quiet (fail); try go_wp2)
    go_ret
    exact ⟨by first | rfl | (simp; done) | (simp [*]; done), by repeat (first | exact Drawn0.refl _ | apply Drawn0.step)⟩
end Go.Proofs.Ythacgkafdjnppaa.XU
