-- Written by a program of this session (xp.py over the kit's printer, with functions proved by hand). Lean checks it.
import Derived.Test.YtlphppkhihabdaaXNx0
import Derived.Test.YtlphppkhihabdaaXNx1
import Derived.Test.YtlphppkhihabdaaXNx2
namespace Go.Proofs.Ytlphppkhihabdaa.XN
open Go.Proofs.Ytlphppkhihabdaa.Limb Go.Proofs.Ytlphppkhihabdaa.Arr Go.Proofs.Ytlphppkhihabdaa.FldA Go.Proofs.Ytlphppkhihabdaa.FldB Go.Proofs.Ytlphppkhihabdaa.FldC Go.Proofs.Ytlphppkhihabdaa.FldS Go.Proofs.Ytlphppkhihabdaa.St Go.Proofs.Ytlphppkhihabdaa.OpenS Go.Proofs.Ytlphppkhihabdaa.StOps Go.Proofs.Ytlphppkhihabdaa.StMid Go.Proofs.Ytlphppkhihabdaa.StIdx Go.Proofs.Ytlphppkhihabdaa.StPt Go.Proofs.Ytlphppkhihabdaa.StBd Go.Proofs.Ytlphppkhihabdaa.ShaA Go.Proofs.Ytlphppkhihabdaa.ShaB Go.Proofs.Ytlphppkhihabdaa.ShaS
open Go.RowKit Go.Proofs.YtlphppkhihabdaaW.PrintWords Go.Proofs.YtlphppkhihabdaaW.PrintLast Go.Proofs.YtlphppkhihabdaaW.PrintMore
attribute [local go_sem] max2_int min2_int max_two min_two max_three min_three max_four min_four   -- for this text's walks alone
set_option linter.unusedVariables false
set_option linter.unusedSimpArgs false

/-! ### spec_l06Make: function 12 -/
def primeL : List Int := [2, 3, 5, 7, 11, 13, 17, 19, 23, 29, 31, 37, 41, 43, 47, 53, 59, 61, 67, 71, 73, 79, 83, 89, 97, 101, 103, 107, 109, 113, 127, 131, 137, 139, 149, 151, 157, 163, 167, 173, 179, 181, 191, 193, 197, 199, 211, 223, 227, 229, 233, 239, 241, 251, 257, 263, 269, 271, 277, 281, 283, 293, 307, 311, 313, 317, 331, 337, 347, 349, 353, 359, 367, 373, 379, 383, 389, 397, 401, 409]
/-- what the reference reckons once: with so many steps it comes out as the standard's numbers -/
def consB (k : Nat) : Bool := (spec_l06Primes.f k 80 == some primeL) && ((List.range 80).all (fun i => spec_l06Frac.f k (primeL.getD i 0) 3 == some (shaK.getD i 0)) && (List.range 8).all (fun i => spec_l06Frac.f k (primeL.getD i 0) 2 == some (shaH.getD i 0)))
theorem consB_is {k : Nat} (h : consB k = true) : spec_l06Primes.f k 80 = some primeL ∧ (∀ i, i < 80 → spec_l06Frac.f k (primeL.getD i 0) 3 = some (shaK.getD i 0)) ∧ (∀ i, i < 8 → spec_l06Frac.f k (primeL.getD i 0) 2 = some (shaH.getD i 0)) := by
  unfold consB at h
  simp only [Bool.and_eq_true, beq_iff_eq, List.all_eq_true, List.mem_range] at h
  exact ⟨h.1, h.2.1, h.2.2⟩
theorem ne_after1 {a b c : Value} {N : Nat} (h : ∀ k, a.ownBlock = some k → b.ownBlock ≠ some k) (hat : c.ownBlock = a.ownBlock ∨ ∃ q, c.ownBlock = some q ∧ N ≤ q) (hl : ∀ k, b.ownBlock = some k → k < N) : ∀ k, c.ownBlock = some k → b.ownBlock ≠ some k := by
  intro k e1 e2
  rcases hat with e | ⟨q, e, hq⟩
  · exact h k (e ▸ e1) e2
  · have := hl k e2
    rw [e1] at e
    cases e
    omega
theorem ne_after2 {a b c : Value} {N : Nat} (h : ∀ k, a.ownBlock = some k → b.ownBlock ≠ some k) (hat : c.ownBlock = b.ownBlock ∨ ∃ q, c.ownBlock = some q ∧ N ≤ q) (hl : ∀ k, a.ownBlock = some k → k < N) : ∀ k, a.ownBlock = some k → c.ownBlock ≠ some k := by
  intro k e1 e2
  rcases hat with e | ⟨q, e, hq⟩
  · exact h k e1 (e ▸ e2)
  · have := hl k e1
    rw [e2] at e
    cases e
    omega
theorem cellP {w : World} {base gP cP i : Nat} {pi : Int} {ps : List Int} (h : Kd.R (Kd.int .i64) 3 w base (fun _ => True) (.slice (some ⟨gP, 0, none⟩) 80 cP) ps) (hl : ps.length = 80) (hp : pi = ps.getD i 0) (hi : i < 80) : w.cell? ⟨gP, i, none⟩ = some (.int .i64 pi) := by
  rw [← hl] at h
  obtain ⟨A, c, e, _, hC⟩ := Kd.R_reads h
  cases e
  obtain ⟨ad, e2, h2⟩ := Kd.at_int hC (i : Int) (by omega) (by rw [hl]; omega)
  cases e2
  rw [hp]
  have h3 : (⟨gP, 0, none⟩ : Addr).add i = ⟨gP, i, none⟩ := by unfold Addr.add; split <;> simp_all
  simpa [h3, rd] using h2
theorem htn (a b : TypeId) (k : IntKind) (h : a ≠ b) : ∀ q, q ∈ a :: (Kd.int k).E → q ≠ b := by
  intro q hq
  rw [show (Kd.int k).E = [] from rfl] at hq
  simp only [List.mem_singleton] at hq
  rw [hq]; exact h
theorem take_get (l : List Int) (i : Nat) (h : i < l.length) : l.take (i + 1) = l.take i ++ [l.getD i 0] := by
  rw [List.take_add_one, List.getD_eq_getElem?_getD, List.getElem?_eq_getElem h]; rfl
set_option maxHeartbeats 40000000 in
set_option maxRecDepth 100000 in
theorem spec_l06Make.calls (k : Nat) (w : World) (h : consB k = true) :
    Calls Try.prog 12 #[] w fun e w' => e = .returned (.pointer (some ⟨w.heap.size, 0, none⟩)) ∧ ∃ vk vh, w'.heap[w.heap.size]? = some (.cells #[vk, vh] 39 (0, 0)) ∧ Kd.R (Kd.int .u64) 32 w' w.heap.size (fun _ => True) vk shaK ∧ Kd.R (Kd.int .u64) 32 w' w.heap.size (fun _ => True) vh shaH ∧ Below w.heap.size w w' := by
  obtain ⟨h1, h2, h3⟩ := consB_is h
  have infoE : (Try.prog.info? 32).map (fun i => (i.zero, i.size, i.bytes)) = some (some (.int .u64 0), 1, 8) := by kernel_rfl
  have INFO := Aside0.mk infoE
  have PM := Aside0.mk (fun W => spec_l06Primes.calls k 80 primeL W h1)
  have F3 := Aside0.mk (fun i (hi : i < 80) W => spec_l06Frac.calls k (primeL.getD i 0) 3 _ W (h2 i hi))
  have F2 := Aside0.mk (fun i (hi : i < 8) W => spec_l06Frac.calls k (primeL.getD i 0) 2 _ W (h3 i hi))
  have LPR : Aside0 (primeL.length = 80) := ⟨rfl⟩
  have LKL : Aside0 (shaK.length = 80) := ⟨rfl⟩
  have LHL : Aside0 (shaH.length = 8) := ⟨rfl⟩
  clear h h1 h2 h3 infoE
  generalize primeL = ps at *
  go_enter Try.func12, Try.ntmps12
  go_wp2_with (fail)
  refine (PM.out _).mono ?_
  rintro e w1 ⟨vp, rfl, hR, hb⟩
  have B0 := Aside0.mk (below_step (below_alloc (Below.refl _ w) (.cells #[.slice none 0 0, .slice none 0 0] 39)) hb)
  have G0 := Aside0.mk (blk_below (blk_new w (.cells #[.slice none 0 0, .slice none 0 0] 39)) hb)
  have P0 := Aside0.mk (Kd.R_lower hR (show w.heap.size ≤ _ by rw [World.size_alloc]; omega))
  clear hR hb
  go_wp2
  obtain ⟨gP, cP, eP, hgP1, hgP2, _⟩ := Kd.R_form P0.out (by rw [LPR.out]; decide)
  subst eP
  rw [LPR.out] at P0 ⊢
  clear hgP1 hgP2
  go_loopg [3] 81 (fun gg v3 wr => ∃ (i : Nat) (vk vh : Value), i ≤ 80 ∧ 80 - i ≤ gg ∧ v3 = .int .i64 i ∧ Aside0 (wr.heap[w.heap.size]? = some (.cells #[vk, vh] 39 (0, 0))) ∧ Aside0 (Kd.R (Kd.int .u64) 32 wr w.heap.size (fun _ => True) vk (shaK.take i)) ∧ Aside0 (Kd.R (Kd.int .u64) 32 wr w.heap.size (fun _ => True) vh (shaH.take i)) ∧ Aside0 (Kd.R (Kd.int .i64) 3 wr w.heap.size (fun _ => True) (.slice (some ⟨gP, 0, none⟩) 80 cP) ps) ∧ Aside0 (∀ k, vk.ownBlock = some k → vh.ownBlock ≠ some k) ∧ Aside0 (Below w.heap.size w wr))
  case atStart => exact ⟨0, _, _, by omega, by omega, rfl, G0, ⟨Kd.R_nil _ _ _ _ _⟩, ⟨Kd.R_nil _ _ _ _ _⟩, P0, ⟨fun k h => by simp [Value.ownBlock] at h⟩, B0⟩
  case round =>
    clear G0 P0 B0
    obtain ⟨i, vk, vh, hi, hg, rfl, G, K, H, P, NE, B⟩ := hrel
    by_cases hlt : i < 80
    · have hlti : (i : Int) < 80 := by omega
      have hi80 : i < 80 := hlt
      obtain ⟨pi, hpi⟩ : ∃ x, x = ps.getD i 0 := ⟨_, rfl⟩
      obtain ⟨fr, hfr⟩ : ∃ x, x = shaK.getD i 0 := ⟨_, rfl⟩
      have FR0 := Aside0.mk (F3.out i hlt)
      rw [← hpi, ← hfr] at FR0
      have EK := Aside0.mk (take_get shaK i (by rw [LKL.out]; exact hlt))
      rw [← hfr] at EK
      have HPI := Aside0.mk hpi
      have LK := Aside0.mk (show (shaK.take i).length ≤ 80 by rw [List.length_take, LKL.out]; omega)
      have LH := Aside0.mk (show (shaH.take i).length ≤ 8 by rw [List.length_take, LHL.out]; omega)
      have EH := Aside0.mk (show i < 8 → shaH.take (i + 1) = shaH.take i ++ [shaH.getD i 0] from fun h => take_get shaH i (by rw [LHL.out]; exact h))
      have EH2 := Aside0.mk (show ¬ i < 8 → shaH.take (i + 1) = shaH.take i from fun h => by rw [List.take_of_length_le (by rw [LHL.out]; omega), List.take_of_length_le (by rw [LHL.out]; omega)])
      clear hpi hfr
      obtain ⟨xK, hxK⟩ : ∃ x, x = shaK.take i := ⟨_, rfl⟩
      obtain ⟨xH, hxH⟩ : ∃ x, x = shaH.take i := ⟨_, rfl⟩
      obtain ⟨yK, hyK⟩ : ∃ x, x = shaK.take (i + 1) := ⟨_, rfl⟩
      rw [← hyK] at EK
      have YK := Aside0.mk hyK
      clear hyK
      rw [← hxK] at K EK LK
      rw [← hxH] at H LH EH EH2
      clear hxK hxH
      have G0 := Aside0.mk (blk_drew G.out)
      have K0 := Aside0.mk (Kd.R_drew K.out)
      have H0 := Aside0.mk (Kd.R_drew H.out)
      have P0 := Aside0.mk (Kd.R_drew P.out)
      have B0 := Aside0.mk (below_drew B.out)
      clear G K H P B
      go_wp2
      refine start_ (n := 15) (S := fun w' => w'.cell? ⟨w.heap.size, 0, none⟩ = some vk ∧ w'.cell? ⟨gP, i, none⟩ = some (.int .i64 pi)) (ds := [11, 14]) #[false, false, false, false, false, false, false, false, false, false, false, false, false, false, false] (by kernel_rfl) rfl rfl ⟨(blk_cell G0.out 0).trans rfl, cellP P0.out LPR.out HPI.out hi80⟩ (fun hHeld => ?_)
      refine pure_ (i := 0) (N := some 11) (v := ?_) (a' := ?_) #[true, false, false, false, false, false, false, false, false, false, false, false, false, false, false] rfl rfl (by kernel_rfl) (fun _ _ _ h => h) (Or.inl ⟨by rfl, ?_⟩) ?_ ?_
      rotate_left
      · intro w'; go_simp; with_reducible rfl
      rotate_left
      · simp only [Act.put, OpenRow.s1, OpenRow.s2, OpenRow.s3, i64_w, i32_w]; rfl
      refine pure_ (i := 1) (N := some 12) (v := ?_) (a' := ?_) #[true, true, false, false, false, false, false, false, false, false, false, false, false, false, false] rfl rfl (by kernel_rfl) (fun _ _ _ h => h) (Or.inl ⟨by rfl, ?_⟩) ?_ ?_
      rotate_left
      · intro w'; go_simp; with_reducible rfl
      rotate_left
      · simp only [Act.put, OpenRow.s1, OpenRow.s2, OpenRow.s3, i64_w, i32_w]; rfl
      refine pure_ (i := 2) (N := some 13) (v := ?_) (a' := ?_) #[true, true, true, false, false, false, false, false, false, false, false, false, false, false, false] rfl rfl (by kernel_rfl) (fun _ _ _ h => h) (Or.inl ⟨by rfl, ?_⟩) ?_ ?_
      rotate_left
      · intro w'; go_simp; with_reducible rfl
      rotate_left
      · simp only [Act.put, OpenRow.s1, OpenRow.s2, OpenRow.s3, i64_w, i32_w]; rfl
      refine pure_ (i := 3) (N := some 14) (v := ?_) (a' := ?_) #[true, true, true, true, false, false, false, false, false, false, false, false, false, false, false] rfl rfl (by kernel_rfl) (fun _ _ _ h => h) (Or.inl ⟨by rfl, ?_⟩) ?_ ?_
      rotate_left
      · intro w'; go_simp; with_reducible rfl
      rotate_left
      · simp only [Act.put, OpenRow.s1, OpenRow.s2, OpenRow.s3, i64_w, i32_w]; rfl
      refine pure_ (i := 5) (N := some 16) (v := ?_) (a' := ?_) #[true, true, true, true, false, true, false, false, false, false, false, false, false, false, false] rfl rfl (by kernel_rfl) (fun _ _ _ h => h) (Or.inl ⟨by rfl, ?_⟩) ?_ ?_
      rotate_left
      · intro w'; go_simp; with_reducible rfl
      rotate_left
      · simp only [Act.put, OpenRow.s1, OpenRow.s2, OpenRow.s3, i64_w, i32_w]; rfl
      refine pure_ (i := 6) (N := some 17) (v := ?_) (a' := ?_) #[true, true, true, true, false, true, true, false, false, false, false, false, false, false, false] rfl rfl (by kernel_rfl) (fun _ _ _ h => h) (Or.inl ⟨by rfl, ?_⟩) ?_ ?_
      rotate_left
      · intro w'; go_simp; with_reducible rfl
      rotate_left
      · simp only [Act.put, OpenRow.s1, OpenRow.s2, OpenRow.s3, i64_w, i32_w]; rfl
      refine pure_ (i := 7) (N := some 18) (v := ?_) (a' := ?_) #[true, true, true, true, false, true, true, true, false, false, false, false, false, false, false] rfl rfl (by kernel_rfl) (fun _ _ _ h => h) (Or.inl ⟨by rfl, ?_⟩) ?_ ?_
      rotate_left
      · intro w'; go_simp; with_reducible rfl
      rotate_left
      · simp only [Act.put, OpenRow.s1, OpenRow.s2, OpenRow.s3, i64_w, i32_w]; rfl
      refine take_ (i := 4) (N := some 15) (v := ?_) (a' := ?_) #[true, true, true, true, true, true, true, true, false, false, false, false, false, false, false] rfl rfl (by kernel_rfl) (fun _ _ _ h => h) (Or.inl ⟨by rfl, ?_⟩) hHeld ?_ ?_
      rotate_left
      · rintro w' ⟨s0, s1⟩
        go_simp
        with_reducible rfl
      rotate_left
      · simp only [Act.put, OpenRow.s1, OpenRow.s2, OpenRow.s3, i64_w, i32_w]; rfl
      refine take_ (i := 8) (N := some 19) (v := ?_) (a' := ?_) #[true, true, true, true, true, true, true, true, true, false, false, false, false, false, false] rfl rfl (by kernel_rfl) (fun _ _ _ h => h) (Or.inl ⟨by rfl, ?_⟩) hHeld ?_ ?_
      rotate_left
      · rintro w' ⟨s0, s1⟩
        go_simp
        with_reducible rfl
      rotate_left
      · simp only [Act.put, OpenRow.s1, OpenRow.s2, OpenRow.s3, i64_w, i32_w]; rfl
      refine one_ (i := 9) (N := some 20) #[true, true, true, true, true, true, true, true, true, true, false, false, false, false, false] rfl rfl (by kernel_rfl) (by decide) (fun K hK => ?_)
      refine goes_ Try.func19 (by kernel_rfl) rfl #[.int .i64 pi, .int .i64 3] (by rfl) rfl rfl (by simp only [List.map_toArray, List.map_cons, List.map_nil] <;> rfl) ?_
      with_reducible refine (FR0.out _).mono ?_
      rintro e w4 ⟨rfl, hb⟩
      refine ⟨_, rfl, ?_⟩
      have G1 := Aside0.mk (blk_below G0.out hb)
      have K1 := Aside0.mk (Kd.R_below K0.out hb)
      have H1 := Aside0.mk (Kd.R_below H0.out hb)
      have P1 := Aside0.mk (Kd.R_below P0.out hb)
      have B1 := Aside0.mk (below_step B0.out hb)
      clear hb
      refine hK.out _ _ ⟨(blk_cell G1.out 0).trans rfl, cellP P1.out LPR.out HPI.out hi80⟩ (fun hHeld => ?_)
      clear hK K
      refine norm_ (a' := ?_) ?_ ?_
      rotate_left
      · show Act.put _ (some 20) _ = _
        simp only [Act.put, OpenRow.s1, OpenRow.s2, OpenRow.s3, i64_w, i32_w]
        rfl
      refine one_ (i := 10) (N := some 21) #[true, true, true, true, true, true, true, true, true, true, true, false, false, false, false] rfl rfl (by kernel_rfl) (by decide) (fun K hK => ?_)
      refine value_ (w1 := ?_) (v := ?_) (by rfl) rfl ?_ ?_
      rotate_left 2
      · go_simp
        constructor
        · rfl
        · rfl
      have G2 := Aside0.mk (blk_alloc G1.out (.cells #[.int .u64 fr] 32))
      have P2 := Aside0.mk (Kd.R_alloc P1.out (.cells #[.int .u64 fr] 32))
      refine hK.out _ _ ⟨(blk_cell G2.out 0).trans rfl, cellP P2.out LPR.out HPI.out hi80⟩ (fun hHeld => ?_)
      clear hK K
      refine norm_ (a' := ?_) ?_ ?_
      rotate_left
      · show Act.put _ (some 21) _ = _
        simp only [Act.put, OpenRow.s1, OpenRow.s2, OpenRow.s3, i64_w, i32_w]
        rfl
      refine last_ (i := 11) (N := some 22) #[true, true, true, true, true, true, true, true, true, true, true, true, false, false, false] rfl rfl (by kernel_rfl) (by decide) (fun K hK => ?_)
      refine Kd.R_append_step (Kd.int .u64) (w0 := w) w.heap.size (by rfl) (.tmp 15) (.tmp 21) 37 32 (.int .u64 0) 8 (by rfl) Try.underlying37 INFO.out rfl (by decide) (by decide) vk xK fr [.int .u64 fr] (fun _ => True) (fun _ => False) (by rfl) (by rfl) ?aP (fun _ hk => hk.elim) (fun _ _ => trivial) K1.out B1.out (below_size B1.out) ?aL ?_
      case aP => exact rfl
      case aL => have := LK.out; omega
      intro vn w6 ho hb hg hat
      rw [← EK.out] at ho
      obtain ⟨An, cn, en, _, _⟩ := Kd.R_reads ho
      subst en
      have M3 := Aside0.mk ho
      have B3 := Aside0.mk hb
      have O3 := Aside0.mk (Kd.R_grown2 H1.out rfl hg (fun k e1 e2 => NE.out k e1 e2.symm))
      have P3 := Aside0.mk (Kd.R_mono (Kd.R_grown (Kd.R_apartR P1.out K1.out (htn 3 32 _ (by decide))) hg (fun _ hk => hk.2)) (fun _ _ => (trivial : True)))
      have G3 := Aside0.mk (blk_grown G1.out hg (Kd.R_ne K1.out G1.out (by decide)))
      have NE3 := Aside0.mk (ne_after1 NE.out hat (Kd.R_lt H1.out))
      have hcS : w6.cell? ⟨w.heap.size, 0, none⟩ = some vk := (blk_cell G3.out 0).trans rfl
      have hfS := blk_frozen G3.out 0
      clear ho hb hg hat G1 K1 H1 P1 B1 G2 P2
      refine hK.out _ _ ?_
      clear hK K
      refine norm_ (a' := ?_) ?_ ?_
      rotate_left
      · show Act.put _ (some 22) _ = _
        simp only [Act.put, OpenRow.s1, OpenRow.s2, OpenRow.s3, i64_w, i32_w]
        rfl
      refine pure_ (i := 12) (N := some 23) (v := ?_) (a' := ?_) #[true, true, true, true, true, true, true, true, true, true, true, true, true, false, false] rfl rfl (by kernel_rfl) (fun _ _ _ h => h) (Or.inl ⟨by rfl, ?_⟩) ?_ ?_
      rotate_left
      · intro w'; go_simp; with_reducible rfl
      rotate_left
      · simp only [Act.put, OpenRow.s1, OpenRow.s2, OpenRow.s3, i64_w, i32_w]; rfl
      refine pure_ (i := 13) (N := some 24) (v := ?_) (a' := ?_) #[true, true, true, true, true, true, true, true, true, true, true, true, true, true, false] rfl rfl (by kernel_rfl) (fun _ _ _ h => h) (Or.inl ⟨by rfl, ?_⟩) ?_ ?_
      rotate_left
      · intro w'; go_simp; with_reducible rfl
      rotate_left
      · simp only [Act.put, OpenRow.s1, OpenRow.s2, OpenRow.s3, i64_w, i32_w]; rfl
      refine last_ (i := 14) (N := none) #[true, true, true, true, true, true, true, true, true, true, true, true, true, true, true] rfl rfl (by kernel_rfl) (by decide) (fun K hK => ?_)
      refine skip_ (w1 := ?_) (by rfl) rfl ?_ ?_
      rotate_left
      · go_simp
        rfl
      refine hK.out _ _ ?_
      clear hK K
      refine done_ (by kernel_rfl) ?_
      have G4 := Aside0.mk (blk_put G3.out 0 (.slice An yK.length cn) (cs' := #[.slice An yK.length cn, vh]) rfl)
      have K4 := Aside0.mk (Kd.R_set M3.out G3.out (htn 32 39 _ (by decide)) 0 (.slice An yK.length cn))
      have H4 := Aside0.mk (Kd.R_set O3.out G3.out (htn 32 39 _ (by decide)) 0 (.slice An yK.length cn))
      have P4 := Aside0.mk (Kd.R_set P3.out G3.out (htn 3 39 _ (by decide)) 0 (.slice An yK.length cn))
      have B4 := Aside0.mk (below_set (j := 0) (v := .slice An yK.length cn) B3.out (Nat.le_refl _))
      clear hcS hfS G3 M3 O3 P3 B3 NE G0 K0 H0 P0 B0
      generalize w6.setCell ⟨w.heap.size, 0, none⟩ (.slice An yK.length cn) = w7 at *

      by_cases h8 : i < 8
      · have h8i : (i : Int) < 8 := by omega
        obtain ⟨fr, hfr⟩ : ∃ x, x = shaH.getD i 0 := ⟨_, rfl⟩
        obtain ⟨yH, hyH⟩ : ∃ x, x = shaH.take (i + 1) := ⟨_, rfl⟩
        have EH1 := Aside0.mk (EH.out h8)
        have FR1 := Aside0.mk (F2.out i h8)
        rw [← HPI.out, ← hfr] at FR1
        rw [← hfr, ← hyH] at EH1
        have YH := Aside0.mk hyH
        clear hfr hyH EH EH2
        have EH := EH1
        go_wp2
        obtain ⟨vk, hvk⟩ : ∃ v, v = Value.slice An yK.length cn := ⟨_, rfl⟩
        rw [← hvk] at K4 G4 NE3
        have G0 := Aside0.mk (blk_drew G4.out)
        have K0 := Aside0.mk (Kd.R_drew K4.out)
        have H0 := Aside0.mk (Kd.R_drew H4.out)
        have P0 := Aside0.mk (Kd.R_drew P4.out)
        have B0 := Aside0.mk (below_drew B4.out)
        have NE := NE3
        clear G4 K4 H4 P4 B4 NE3
        refine start_ (n := 15) (S := fun w' => w'.cell? ⟨w.heap.size, 1, none⟩ = some vh ∧ w'.cell? ⟨gP, i, none⟩ = some (.int .i64 pi)) (ds := [11, 14]) #[false, false, false, false, false, false, false, false, false, false, false, false, false, false, false] (by kernel_rfl) rfl rfl ⟨(blk_cell G0.out 1).trans rfl, cellP P0.out LPR.out HPI.out hi80⟩ (fun hHeld => ?_)
        refine pure_ (i := 0) (N := some 27) (v := ?_) (a' := ?_) #[true, false, false, false, false, false, false, false, false, false, false, false, false, false, false] rfl rfl (by kernel_rfl) (fun _ _ _ h => h) (Or.inl ⟨by rfl, ?_⟩) ?_ ?_
        rotate_left
        · intro w'; go_simp; with_reducible rfl
        rotate_left
        · simp only [Act.put, OpenRow.s1, OpenRow.s2, OpenRow.s3, i64_w, i32_w]; rfl
        refine pure_ (i := 1) (N := some 28) (v := ?_) (a' := ?_) #[true, true, false, false, false, false, false, false, false, false, false, false, false, false, false] rfl rfl (by kernel_rfl) (fun _ _ _ h => h) (Or.inl ⟨by rfl, ?_⟩) ?_ ?_
        rotate_left
        · intro w'; go_simp; with_reducible rfl
        rotate_left
        · simp only [Act.put, OpenRow.s1, OpenRow.s2, OpenRow.s3, i64_w, i32_w]; rfl
        refine pure_ (i := 2) (N := some 29) (v := ?_) (a' := ?_) #[true, true, true, false, false, false, false, false, false, false, false, false, false, false, false] rfl rfl (by kernel_rfl) (fun _ _ _ h => h) (Or.inl ⟨by rfl, ?_⟩) ?_ ?_
        rotate_left
        · intro w'; go_simp; with_reducible rfl
        rotate_left
        · simp only [Act.put, OpenRow.s1, OpenRow.s2, OpenRow.s3, i64_w, i32_w]; rfl
        refine pure_ (i := 3) (N := some 30) (v := ?_) (a' := ?_) #[true, true, true, true, false, false, false, false, false, false, false, false, false, false, false] rfl rfl (by kernel_rfl) (fun _ _ _ h => h) (Or.inl ⟨by rfl, ?_⟩) ?_ ?_
        rotate_left
        · intro w'; go_simp; with_reducible rfl
        rotate_left
        · simp only [Act.put, OpenRow.s1, OpenRow.s2, OpenRow.s3, i64_w, i32_w]; rfl
        refine pure_ (i := 5) (N := some 32) (v := ?_) (a' := ?_) #[true, true, true, true, false, true, false, false, false, false, false, false, false, false, false] rfl rfl (by kernel_rfl) (fun _ _ _ h => h) (Or.inl ⟨by rfl, ?_⟩) ?_ ?_
        rotate_left
        · intro w'; go_simp; with_reducible rfl
        rotate_left
        · simp only [Act.put, OpenRow.s1, OpenRow.s2, OpenRow.s3, i64_w, i32_w]; rfl
        refine pure_ (i := 6) (N := some 33) (v := ?_) (a' := ?_) #[true, true, true, true, false, true, true, false, false, false, false, false, false, false, false] rfl rfl (by kernel_rfl) (fun _ _ _ h => h) (Or.inl ⟨by rfl, ?_⟩) ?_ ?_
        rotate_left
        · intro w'; go_simp; with_reducible rfl
        rotate_left
        · simp only [Act.put, OpenRow.s1, OpenRow.s2, OpenRow.s3, i64_w, i32_w]; rfl
        refine pure_ (i := 7) (N := some 34) (v := ?_) (a' := ?_) #[true, true, true, true, false, true, true, true, false, false, false, false, false, false, false] rfl rfl (by kernel_rfl) (fun _ _ _ h => h) (Or.inl ⟨by rfl, ?_⟩) ?_ ?_
        rotate_left
        · intro w'; go_simp; with_reducible rfl
        rotate_left
        · simp only [Act.put, OpenRow.s1, OpenRow.s2, OpenRow.s3, i64_w, i32_w]; rfl
        refine take_ (i := 4) (N := some 31) (v := ?_) (a' := ?_) #[true, true, true, true, true, true, true, true, false, false, false, false, false, false, false] rfl rfl (by kernel_rfl) (fun _ _ _ h => h) (Or.inl ⟨by rfl, ?_⟩) hHeld ?_ ?_
        rotate_left
        · rintro w' ⟨s0, s1⟩
          go_simp
          with_reducible rfl
        rotate_left
        · simp only [Act.put, OpenRow.s1, OpenRow.s2, OpenRow.s3, i64_w, i32_w]; rfl
        refine take_ (i := 8) (N := some 35) (v := ?_) (a' := ?_) #[true, true, true, true, true, true, true, true, true, false, false, false, false, false, false] rfl rfl (by kernel_rfl) (fun _ _ _ h => h) (Or.inl ⟨by rfl, ?_⟩) hHeld ?_ ?_
        rotate_left
        · rintro w' ⟨s0, s1⟩
          go_simp
          with_reducible rfl
        rotate_left
        · simp only [Act.put, OpenRow.s1, OpenRow.s2, OpenRow.s3, i64_w, i32_w]; rfl
        refine one_ (i := 9) (N := some 36) #[true, true, true, true, true, true, true, true, true, true, false, false, false, false, false] rfl rfl (by kernel_rfl) (by decide) (fun K hK => ?_)
        refine goes_ Try.func19 (by kernel_rfl) rfl #[.int .i64 pi, .int .i64 2] (by rfl) rfl rfl (by simp only [List.map_toArray, List.map_cons, List.map_nil] <;> rfl) ?_
        with_reducible refine (FR1.out _).mono ?_
        rintro e w4 ⟨rfl, hb⟩
        refine ⟨_, rfl, ?_⟩
        have G1 := Aside0.mk (blk_below G0.out hb)
        have K1 := Aside0.mk (Kd.R_below K0.out hb)
        have H1 := Aside0.mk (Kd.R_below H0.out hb)
        have P1 := Aside0.mk (Kd.R_below P0.out hb)
        have B1 := Aside0.mk (below_step B0.out hb)
        clear hb
        refine hK.out _ _ ⟨(blk_cell G1.out 1).trans rfl, cellP P1.out LPR.out HPI.out hi80⟩ (fun hHeld => ?_)
        clear hK K
        refine norm_ (a' := ?_) ?_ ?_
        rotate_left
        · show Act.put _ (some 36) _ = _
          simp only [Act.put, OpenRow.s1, OpenRow.s2, OpenRow.s3, i64_w, i32_w]
          rfl
        refine one_ (i := 10) (N := some 37) #[true, true, true, true, true, true, true, true, true, true, true, false, false, false, false] rfl rfl (by kernel_rfl) (by decide) (fun K hK => ?_)
        refine value_ (w1 := ?_) (v := ?_) (by rfl) rfl ?_ ?_
        rotate_left 2
        · go_simp
          constructor
          · rfl
          · rfl
        have G2 := Aside0.mk (blk_alloc G1.out (.cells #[.int .u64 fr] 32))
        have P2 := Aside0.mk (Kd.R_alloc P1.out (.cells #[.int .u64 fr] 32))
        refine hK.out _ _ ⟨(blk_cell G2.out 1).trans rfl, cellP P2.out LPR.out HPI.out hi80⟩ (fun hHeld => ?_)
        clear hK K
        refine norm_ (a' := ?_) ?_ ?_
        rotate_left
        · show Act.put _ (some 37) _ = _
          simp only [Act.put, OpenRow.s1, OpenRow.s2, OpenRow.s3, i64_w, i32_w]
          rfl
        refine last_ (i := 11) (N := some 38) #[true, true, true, true, true, true, true, true, true, true, true, true, false, false, false] rfl rfl (by kernel_rfl) (by decide) (fun K hK => ?_)
        refine Kd.R_append_step (Kd.int .u64) (w0 := w) w.heap.size (by rfl) (.tmp 31) (.tmp 37) 37 32 (.int .u64 0) 8 (by rfl) Try.underlying37 INFO.out rfl (by decide) (by decide) vh xH fr [.int .u64 fr] (fun _ => True) (fun _ => False) (by rfl) (by rfl) ?aP (fun _ hk => hk.elim) (fun _ _ => trivial) H1.out B1.out (below_size B1.out) ?aL ?_
        case aP => exact rfl
        case aL => have := LH.out; omega
        intro vn w6 ho hb hg hat
        rw [← EH.out] at ho
        obtain ⟨An, cn, en, _, _⟩ := Kd.R_reads ho
        subst en
        have M3 := Aside0.mk ho
        have B3 := Aside0.mk hb
        have O3 := Aside0.mk (Kd.R_grown2 K1.out rfl hg (fun k e1 e2 => NE.out k e2.symm e1))
        have P3 := Aside0.mk (Kd.R_mono (Kd.R_grown (Kd.R_apartR P1.out H1.out (htn 3 32 _ (by decide))) hg (fun _ hk => hk.2)) (fun _ _ => (trivial : True)))
        have G3 := Aside0.mk (blk_grown G1.out hg (Kd.R_ne H1.out G1.out (by decide)))
        have NE3 := Aside0.mk (ne_after2 NE.out hat (Kd.R_lt K1.out))
        have hcS : w6.cell? ⟨w.heap.size, 1, none⟩ = some vh := (blk_cell G3.out 1).trans rfl
        have hfS := blk_frozen G3.out 1
        clear ho hb hg hat G1 K1 H1 P1 B1 G2 P2
        refine hK.out _ _ ?_
        clear hK K
        refine norm_ (a' := ?_) ?_ ?_
        rotate_left
        · show Act.put _ (some 38) _ = _
          simp only [Act.put, OpenRow.s1, OpenRow.s2, OpenRow.s3, i64_w, i32_w]
          rfl
        refine pure_ (i := 12) (N := some 39) (v := ?_) (a' := ?_) #[true, true, true, true, true, true, true, true, true, true, true, true, true, false, false] rfl rfl (by kernel_rfl) (fun _ _ _ h => h) (Or.inl ⟨by rfl, ?_⟩) ?_ ?_
        rotate_left
        · intro w'; go_simp; with_reducible rfl
        rotate_left
        · simp only [Act.put, OpenRow.s1, OpenRow.s2, OpenRow.s3, i64_w, i32_w]; rfl
        refine pure_ (i := 13) (N := some 40) (v := ?_) (a' := ?_) #[true, true, true, true, true, true, true, true, true, true, true, true, true, true, false] rfl rfl (by kernel_rfl) (fun _ _ _ h => h) (Or.inl ⟨by rfl, ?_⟩) ?_ ?_
        rotate_left
        · intro w'; go_simp; with_reducible rfl
        rotate_left
        · simp only [Act.put, OpenRow.s1, OpenRow.s2, OpenRow.s3, i64_w, i32_w]; rfl
        refine last_ (i := 14) (N := none) #[true, true, true, true, true, true, true, true, true, true, true, true, true, true, true] rfl rfl (by kernel_rfl) (by decide) (fun K hK => ?_)
        refine skip_ (w1 := ?_) (by rfl) rfl ?_ ?_
        rotate_left
        · go_simp
          rfl
        refine hK.out _ _ ?_
        clear hK K
        refine done_ (by kernel_rfl) ?_
        have G4 := Aside0.mk (blk_put G3.out 1 (.slice An yH.length cn) (cs' := #[vk, .slice An yH.length cn]) rfl)
        have H4 := Aside0.mk (Kd.R_set M3.out G3.out (htn 32 39 _ (by decide)) 1 (.slice An yH.length cn))
        have K4 := Aside0.mk (Kd.R_set O3.out G3.out (htn 32 39 _ (by decide)) 1 (.slice An yH.length cn))
        have P4 := Aside0.mk (Kd.R_set P3.out G3.out (htn 3 39 _ (by decide)) 1 (.slice An yH.length cn))
        have B4 := Aside0.mk (below_set (j := 1) (v := .slice An yH.length cn) B3.out (Nat.le_refl _))
        clear hcS hfS G3 M3 O3 P3 B3 NE G0 K0 H0 P0 B0
        generalize w6.setCell ⟨w.heap.size, 1, none⟩ (.slice An yH.length cn) = w7 at *

        (repeat go_step)
        go_roundg (80 - (i + 1))
        case measure => omega
        case rel => exact ⟨i + 1, _, _, by omega, by omega, by go_num, G4, by rw [← YK.out]; exact K4, by rw [← YH.out]; exact H4, P4, NE3, B4⟩
      · have h8i : ¬ (i : Int) < 8 := by omega
        have EHx := EH2.out h8
        go_wp2
        go_roundg (80 - (i + 1))
        case measure => omega
        case rel => exact ⟨i + 1, _, _, by omega, by omega, by go_num, G4, by rw [← YK.out]; exact K4, by rw [EHx]; exact H4, P4, NE3, B4⟩
    · obtain rfl : i = 80 := by omega
      have hneg : ¬ ((80 : Nat) : Int) < 80 := by omega
      rw [List.take_of_length_le (by rw [LKL.out]; decide)] at K
      rw [List.take_of_length_le (by rw [LHL.out]; decide)] at H
      go_wp2
      go_ret
      exact ⟨rfl, vk, vh, G.out, K.out, H.out, B.out⟩


/-! ### spec_l06Turn: function 28 -/
def spec_l06Turn.f (a0 : Int) (a1 : Int) : Option (Int) := if 0 ≤ (IntKind.u64.wrap (a1)) then (if 0 ≤ (IntKind.u64.wrap (wrap64 (64 - a1))) then (some (Go.bits .or .u64 (shr .u64 a0 (IntKind.u64.wrap (a1))) (shl .u64 a0 (IntKind.u64.wrap (wrap64 (64 - a1)))))) else (none)) else (none)
set_option maxHeartbeats 8000000 in
set_option maxRecDepth 100000 in
theorem spec_l06Turn.calls (a0 : Int) (a1 : Int) (r : Int) (w : World) (h : spec_l06Turn.f a0 a1 = some r) :
    Calls Try.prog 28 #[.int .u64 a0, .int .i64 a1] w fun e w' => e = .returned (.int .u64 r) ∧ Drawn0 w w' := by
  have H : (if 0 ≤ (IntKind.u64.wrap (a1)) then (if 0 ≤ (IntKind.u64.wrap (wrap64 (64 - a1))) then (some (Go.bits .or .u64 (shr .u64 a0 (IntKind.u64.wrap (a1))) (shl .u64 a0 (IntKind.u64.wrap (wrap64 (64 - a1)))))) else (none)) else (none)) = some r := h
  clear h
  obtain ⟨ji3, hji3⟩ : ∃ j_ : Int, (IntKind.u64.wrap (a1)) = j_ := ⟨_, rfl⟩
  replace H : (if 0 ≤ (ji3) then (if 0 ≤ (IntKind.u64.wrap (wrap64 (64 - a1))) then (some (Go.bits .or .u64 (shr .u64 a0 (ji3)) (shl .u64 a0 (IntKind.u64.wrap (wrap64 (64 - a1)))))) else (none)) else (none)) = some r := by first | (rw [hji3] at H; exact H) | (simp only [hji3] at H ⊢; exact H)
  by_cases c4 : 0 ≤ (ji3)
  · rw [if_pos c4] at H
    have c4b0 := eq_true c4
    have c4b1 : decide (0 ≤ (ji3)) = true := decide_eq_true c4
    clear c4
    obtain ⟨ji5, hji5⟩ : ∃ j_ : Int, (shr .u64 a0 (ji3)) = j_ := ⟨_, rfl⟩
    replace H : (if 0 ≤ (IntKind.u64.wrap (wrap64 (64 - a1))) then (some (Go.bits .or .u64 (ji5) (shl .u64 a0 (IntKind.u64.wrap (wrap64 (64 - a1)))))) else (none)) = some r := by first | (rw [hji5] at H; exact H) | (simp only [hji5] at H ⊢; exact H)
    have hji5_ : (a0 / 2 ^ min (ji3).toNat 64) = ji5 := hji5
    have hji5z : (ji3) ≤ 64 → (a0 / 2 ^ (ji3).toNat) = ji5 := shr_small hji5
    obtain ⟨ji6, hji6⟩ : ∃ j_ : Int, (IntKind.u64.wrap (wrap64 (64 - a1))) = j_ := ⟨_, rfl⟩
    replace H : (if 0 ≤ (ji6) then (some (Go.bits .or .u64 (ji5) (shl .u64 a0 (ji6)))) else (none)) = some r := by first | (rw [hji6] at H; exact H) | (simp only [hji6] at H ⊢; exact H)
    by_cases c7 : 0 ≤ (ji6)
    · rw [if_pos c7] at H
      have c7b0 := eq_true c7
      have c7b1 : decide (0 ≤ (ji6)) = true := decide_eq_true c7
      clear c7
      obtain ⟨ji8, hji8⟩ : ∃ j_ : Int, (shl .u64 a0 (ji6)) = j_ := ⟨_, rfl⟩
      replace H : (some (Go.bits .or .u64 (ji5) (ji8))) = some r := by first | (rw [hji8] at H; exact H) | (simp only [hji8] at H ⊢; exact H)
      have hji8_ : (IntKind.u64.wrap (a0 * 2 ^ min (ji6).toNat 64)) = ji8 := hji8
      have hji8z : (ji6) ≤ 64 → (IntKind.u64.wrap (a0 * 2 ^ (ji6).toNat)) = ji8 := shl_small hji8
      obtain rfl := Option.some.inj H
      go_enter Try.func28, Try.ntmps28
      go_wp2
      go_ret
      exact ⟨by first | rfl | (simp; done) | (simp only [← hji3, ← hji5, ← hji6, ← hji8] <;> (first | rfl | simp)) | (simp [*]; done), by repeat (first | exact Drawn0.refl _ | apply Drawn0.step)⟩
    · rw [if_neg c7] at H
      exact absurd H (by simp)
  · rw [if_neg c4] at H
    exact absurd H (by simp)

end Go.Proofs.Ytlphppkhihabdaa.XN
