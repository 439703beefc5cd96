-- Written by a program of this session (xp.py over the kit's printer, with functions proved by hand). Lean checks it.
import Derived.Test.YtmkemagjedihmaaXCx0
import Derived.Test.YtmkemagjedihmaaXCx1
import Derived.Test.YtmkemagjedihmaaXCx3
namespace Go.Proofs.Ytmkemagjedihmaa.XC
open Go.Proofs.Ytmkemagjedihmaa.Limb Go.Proofs.Ytmkemagjedihmaa.Arr Go.Proofs.Ytmkemagjedihmaa.FldA Go.Proofs.Ytmkemagjedihmaa.FldB Go.Proofs.Ytmkemagjedihmaa.FldC Go.Proofs.Ytmkemagjedihmaa.FldS Go.Proofs.Ytmkemagjedihmaa.FldP Go.Proofs.Ytmkemagjedihmaa.FldW Go.Proofs.Ytmkemagjedihmaa.St Go.Proofs.Ytmkemagjedihmaa.OpenS Go.Proofs.Ytmkemagjedihmaa.StOps Go.Proofs.Ytmkemagjedihmaa.Open Go.Proofs.Ytmkemagjedihmaa.OpenWin Go.Proofs.Ytmkemagjedihmaa.OpenCopy Go.Proofs.Ytmkemagjedihmaa.OpenCopy2 Go.Proofs.Ytmkemagjedihmaa.StSrc
open Go.RowKit Go.Proofs.YtmkemagjedihmaaW.PrintWords Go.Proofs.YtmkemagjedihmaaW.PrintLast Go.Proofs.YtmkemagjedihmaaW.PrintMore
attribute [local go_sem] max2_int min2_int max_two min_two max_three min_three max_four min_four   -- for this text's walks alone
set_option linter.unusedVariables false
set_option linter.unusedSimpArgs false

/-! ### spec_l00Src_bytes: function 18 -/
/-- the bytes that are drawn from place p on -/
def srcA (code : List Int) (p : Nat) : Nat → List Int
  | 0 => []
  | k + 1 => srcA code p k ++ [byN code (p + 1 + k)]
def srcAM (code : List Int) (p q : Nat) : Nat := (byN code p % ((q : Int) + 1)).toNat
theorem srcA_length (code : List Int) (p k : Nat) : (srcA code p k).length = k := by
  induction k with
  | zero => rfl
  | succ k ih => show (srcA code p k ++ [_]).length = _; rw [List.length_append, ih]; rfl
theorem srcAM_le (code : List Int) (ho : Ok 256 code) (p q : Nat) : srcAM code p q ≤ q := by
  unfold srcAM
  have h1 := Int.emod_nonneg (byN code p) (show (q : Int) + 1 ≠ 0 by omega)
  have h2 := Int.emod_lt_of_pos (byN code p) (show 0 < (q : Int) + 1 by omega)
  omega
theorem below_two {B B2 : Nat} {w0 W W2 : World} (h : Below B w0 W) (k : Below B2 W W2) (hle : B ≤ B2) : Below B w0 W2 :=
  ⟨k.os.trans h.os, k.tape.trans h.tape, k.output.trans h.output, Nat.le_trans h.size k.size, fun i hi => (k.block i (by omega)).trans (h.block i hi)⟩
theorem gr_of {g : Nat} {w W : World} (h : Below w.heap.size w W) : w.grownBy W (some g) := ⟨h.os, h.tape, h.output, h.size, fun k hk _ => h.block k hk⟩
theorem gr_below {g : Nat} {w W W2 : World} (h : w.grownBy W (some g)) (k : Below w.heap.size W W2) : w.grownBy W2 (some g) :=
  ⟨k.os.trans h.os, k.tape.trans h.tape, k.output.trans h.output, Nat.le_trans h.size k.size, fun i hi hn => (k.block i hi).trans (h.block i hi hn)⟩
theorem gr_ch {g : Nat} {w W W2 : World} (h : w.grownBy W (some g)) (c : Ch g W W2) : w.grownBy W2 (some g) :=
  ⟨c.grown.os.trans h.os, c.grown.tape.trans h.tape, c.grown.output.trans h.output, Nat.le_trans h.size c.grown.size, fun i hi hn => (c.grown.block i (Nat.lt_of_lt_of_le hi h.size) hn).trans (h.block i hi hn)⟩
set_option maxHeartbeats 4000000 in
set_option maxRecDepth 100000 in
theorem l00bytesAt.calls (g : Nat) (A : Option Addr) (c : Nat) (code : List Int) (p q : Nat) (w0 w : World) (hg : w.heap[g]? = some (.cells #[.slice A code.length c, .int .i64 (p : Int), .int .i64 (sdN code p)] 43 (0, 0)))
    (hC : Kd.C (Kd.int .u8) w0 A code.length code) (hB : Below w0.heap.size w0 w) (hgb : w0.heap.size ≤ g) (ho : Ok 256 code) (hl : code.length < 1099511627776) (hp : p < 900000) (hq : 1 ≤ q) (hq2 : q ≤ 200) :
    Calls Try.prog 18 #[.pointer (some ⟨g, 0, none⟩), .int .i64 (q : Int)] w fun e w' => ∃ v, e = .returned v ∧ Kd.R (Kd.int .u8) 5 w' w.heap.size (fun _ => True) v (srcA code p (srcAM code p q)) ∧ w'.heap[g]? = some (.cells #[.slice A code.length c, .int .i64 ((p + 1 + srcAM code p q : Nat) : Int), .int .i64 (sdN code (p + 1 + srcAM code p q))] 43 (0, 0)) ∧ Below w0.heap.size w0 w' ∧ w.grownBy w' (some g) := by
  have infoE : (Try.prog.info? 5).map (fun i => (i.zero, i.size, i.bytes)) = some (some (.int .u8 0), 1, 1) := by kernel_rfl
  have INFO := Aside0.mk infoE
  have HN := Aside0.mk (fun k n W (hW : W.heap[g]? = some (.cells #[.slice A code.length c, .int .i64 ((k : Nat) : Int), .int .i64 (sdN code (k))] 43 (0, 0))) (hb : Below w0.heap.size w0 W) (hk : k < 1000000) (h1 : 2 ≤ n) (h2 : n ≤ 256) => l00next.calls g A c code k n w0 W hW hC hb hgb ho hk hl h1 h2)
  have HG := Aside0.mk hg
  have HB := Aside0.mk hB
  have HGB := Aside0.mk hgb
  have HGL := Aside0.mk (blk_lt hg)
  have RG := Aside0.mk (fun k => byN_range code ho k)
  obtain ⟨m, hm⟩ : ∃ m, m = srcAM code p q := ⟨_, rfl⟩
  have hmq : m ≤ q := by rw [hm]; exact srcAM_le code ho p q
  have hmi : byN code p % ((q : Int) + 1) = (m : Int) := by
    rw [hm]; unfold srcAM
    have h1 := Int.emod_nonneg (byN code p) (show (q : Int) + 1 ≠ 0 by omega)
    omega
  rw [← hm]
  have hwq : IntKind.i64.wrap ((q : Int) + 1) = (q : Int) + 1 := by rw [IntKind.wrap_i64]; omega
  clear hg hC hB hgb infoE hm
  have HWB := Aside0.mk HB.out.size
  have N0 := Aside0.mk (fun W (h1 : W.heap[g]? = some (.cells #[.slice A code.length c, .int .i64 (p : Int), .int .i64 (sdN code p)] 43 (0, 0))) (h2 : Below w0.heap.size w0 W) => (show Calls Try.prog 16 #[.pointer (some ⟨g, 0, none⟩), .int .i64 ((q : Int) + 1)] W fun e w' => e = .returned (.int .i64 (m : Int)) ∧ w'.heap[g]? = some (.cells #[.slice A code.length c, .int .i64 (((p + 1 : Nat) : Int)), .int .i64 (sdN code (p + 1))] 43 (0, 0)) ∧ Ch g W w' from by have h := HN.out p ((q : Int) + 1) W h1 h2 (by omega) (by omega) (by omega); rw [hmi] at h; exact h))
  have NB := Aside0.mk (fun j W (hj : j < 1000) (h1 : W.heap[g]? = some (.cells #[.slice A code.length c, .int .i64 (((p + 1 + j : Nat) : Int)), .int .i64 (sdN code (p + 1 + j))] 43 (0, 0))) (h2 : Below w0.heap.size w0 W) => (show Calls Try.prog 16 #[.pointer (some ⟨g, 0, none⟩), .int .i64 256] W fun e w' => e = .returned (.int .i64 (byN code (p + 1 + j))) ∧ w'.heap[g]? = some (.cells #[.slice A code.length c, .int .i64 (((p + 1 + (j + 1) : Nat) : Int)), .int .i64 (sdN code (p + 1 + (j + 1)))] 43 (0, 0)) ∧ Ch g W w' from by have h := HN.out (p + 1 + j) 256 W h1 h2 (by omega) (by omega) (by omega); rw [show byN code (p + 1 + j) % 256 = byN code (p + 1 + j) from by have := RG.out (p + 1 + j); omega] at h; exact h))
  clear hmi
  go_enter Try.func18, Try.ntmps18
  go_wp2_with (first
    | ((with_reducible refine gate_dst (N := 7) rfl ?_); refine Kd.R_lit (w0 := w) (Kd.int .u8) w.heap.size 5 rfl (N := 7) rfl (xs := ([] : List Int)) (inner := []) (ok := fun _ => True) (okp := fun _ => True) ?hr ?hp (fun _ hk => hk) trivial (Below.refl _ _) (Nat.le_refl _) (by simp) ?_; (case hr => first | (go_simp; done) | (go_simp; rfl)); (case hp => exact Kd.reps_scalar _); intro v1 w1 ho hb hg_ hnew_; have R := Aside0.mk ho; have B := Aside0.mk (below_two HB.out hb HWB.out); have G := Aside0.mk ((hb.block g HGL.out).trans HG.out); have SZ := Aside0.mk hb.size; have GR := Aside0.mk (gr_of (g := g) hb); clear ho hb hg_ hnew_)
    | ((with_reducible refine (N0.out _ G.out B.out).mono ?_); rintro e w2 ⟨rfl, hG, hch⟩; have R := Aside0.mk (R_ch R.out hch HGL.out); have B := Aside0.mk (hch.bel _ _ B.out HGB.out); have SZ := Aside0.mk (by rw [hch.siz]; exact SZ.out : w.heap.size ≤ w2.heap.size); have GR := Aside0.mk (gr_ch GR.out hch); have G := Aside0.mk hG; clear hG hch))
  go_loopg [5, 6] (m + 1) (fun gg v5 v6 wr => ∃ (j i : Nat) (vv : Value), i + j = m ∧ i ≤ gg ∧ v6 = .int .i64 (i : Int) ∧ vv = v5 ∧ Aside0 (Kd.R (Kd.int .u8) 5 wr w.heap.size (fun _ => True) vv (srcA code p j)) ∧ Aside0 (wr.heap[g]? = some (.cells #[.slice A code.length c, .int .i64 (((p + 1 + j : Nat) : Int)), .int .i64 (sdN code (p + 1 + j))] 43 (0, 0))) ∧ Aside0 (Below w0.heap.size w0 wr) ∧ Aside0 (w.heap.size ≤ wr.heap.size) ∧ Aside0 (w.grownBy wr (some g)))
  case atStart => exact ⟨0, m, _, by omega, by omega, rfl, rfl, R, G, B, SZ, GR⟩
  case round =>
    clear R G B SZ GR
    obtain ⟨j, i, vv, hij, hg, rfl, rfl, R, G, B, SZ, GR⟩ := hrel
    rcases Nat.eq_zero_or_pos i with h0 | h0
    · subst h0
      obtain rfl : j = m := by omega
      have hneg : ¬ ((0 : Nat) : Int) > 0 := by omega
      clear hij hg
      go_wp2
      go_ret
      exact ⟨_, rfl, R.out, G.out, B.out, GR.out⟩
    · obtain ⟨i, rfl⟩ : ∃ k, i = k + 1 := ⟨i - 1, by omega⟩
      have hpos : (((i + 1 : Nat)) : Int) > 0 := by omega
      have hsub : (((i + 1 : Nat)) : Int) - 1 = (i : Int) := by omega
      have hi9 : i < 1000 := by omega
      have EQ := Aside0.mk (show srcA code p (j + 1) = srcA code p j ++ [byN code (p + 1 + j)] from rfl)
      have LL := Aside0.mk (show (srcA code p j).length + 1 < 1000 by rw [srcA_length]; omega)
      have NJ := Aside0.mk (fun W h1 h2 => NB.out j W (by omega) h1 h2)
      have rx := RG.out (p + 1 + j)
      obtain ⟨x, hx⟩ : ∃ x, x = byN code (p + 1 + j) := ⟨_, rfl⟩
      rw [← hx] at EQ NJ rx
      have x0 := rx.1
      have x1 := rx.2
      clear hx rx hwq
      generalize srcA code p j = xs at *
      go_wp2_with (first
        | ((with_reducible refine (NJ.out _ G.out B.out).mono ?_); rintro e w5 ⟨rfl, hG, hch⟩; have R := Aside0.mk (R_ch R.out hch HGL.out); have B := Aside0.mk (hch.bel _ _ B.out HGB.out); have SZ := Aside0.mk (by rw [hch.siz]; exact SZ.out : w.heap.size ≤ w5.heap.size); have GR := Aside0.mk (gr_ch GR.out hch); have G := Aside0.mk hG; clear hG hch)
        | ((with_reducible refine gate_builtin (b := .append) (xs := #[.tmp 16, .tmp 20]) rfl ?_); at_builtin; refine Kd.R_append (Kd.int .u8) (w0 := w5) w.heap.size rfl (.tmp 16) (.tmp 20) 22 5 (.int .u8 0) 1 rfl Try.underlying22 INFO.out rfl (by decide) (by decide) vv xs x [.int .u8 x] (fun _ => True) (fun _ => False) rfl rfl ?aP (fun _ hk => hk.elim) ?aF ?aO ?aB ?aS ?aL ?_; (case aP => exact rfl); (case aB => exact (Below.refl _ _)); (case aF => exact (fun _ _ => trivial)); (case aO => exact R.out); (case aS => exact SZ.out); (case aL => have := LL.out; omega); intro v6_ w6 ho hb hg2 hat; rw [← EQ.out] at ho; have R := Aside0.mk ho; have G := Aside0.mk ((hb.block g HGL.out).trans G.out); have B := Aside0.mk (below_two B.out hb HWB.out); have SZ := Aside0.mk (Nat.le_trans SZ.out hb.size); have GR := Aside0.mk (gr_below GR.out hb); clear ho hb hg2 hat))
      go_roundg i
      case measure => omega
      case rel => exact ⟨j + 1, i, _, by omega, Nat.le_refl _, by first | rfl | go_num, rfl, R, G, B, SZ, GR⟩


/-! ### spec_l00Src_device: function 9 -/
/-- what is held by the device that is drawn; the place behind its writes; it behind so many writes -/
def dvH (code : List Int) : List Int := List.replicate (32 * (byN code 0 % 4).toNat) 0
def dvP (code : List Int) : Nat → Nat
  | 0 => 2
  | j + 1 => dvP code j + 2 + srcAM code (dvP code j + 1) 30
def dvS (k : Nat) (code : List Int) : Nat → Option (List Int × List (S32))
  | 0 => some (dvH code, [])
  | j + 1 => (dvS k code j).bind fun hl => spec_l01Write.f k hl.1 hl.2 (byN code (dvP code j) % 120) (srcA code (dvP code j + 1) (srcAM code (dvP code j + 1) 30))
def dvF (k : Nat) (code : List Int) : Option (List Int × List (S32)) := dvS k code (byN code 1 % 4).toNat
theorem dvP_le (code : List Int) (ho : Ok 256 code) (j : Nat) : dvP code j ≤ 2 + 32 * j := by
  induction j with
  | zero => exact Nat.le_refl _
  | succ j ih => show dvP code j + 2 + srcAM code (dvP code j + 1) 30 ≤ _; have := srcAM_le code ho (dvP code j + 1) 30; omega
theorem dvS_some (k : Nat) (code : List Int) (n : Nat) : ∀ d j, j + d = n → (dvS k code n).isSome = true → (dvS k code j).isSome = true := by
  intro d
  induction d with
  | zero => intro j hj h; have e : j = n := by omega
            rw [e]; exact h
  | succ d ih =>
    intro j hj h
    have h2 := ih (j + 1) (by omega) h
    rcases hx : dvS k code j with _ | x
    · simp only [dvS, hx, Option.bind_none, Option.isSome_none] at h2; cases h2
    · rfl
theorem dvS_mono (code : List Int) (j : Nat) : ∀ k, LeO (dvS k code j) (dvS (k + 1) code j) := by
  induction j with
  | zero => intro k; exact LeO.refl _
  | succ j ih => intro k; exact LeO.bind (ih k) (fun _ => spec_l01Write.mono _ _ _ _ _)
set_option maxHeartbeats 8000000 in
set_option maxRecDepth 100000 in
theorem l00device.calls (k : Nat) (r1 : List Int) (r2 : List (S32)) (g : Nat) (A : Option Addr) (c : Nat) (code : List Int) (w0 w : World) (hg : w.heap[g]? = some (.cells #[.slice A code.length c, .int .i64 0, .int .i64 (sdN code 0)] 43 (0, 0)))
    (hC : Kd.C (Kd.int .u8) w0 A code.length code) (hB : Below w0.heap.size w0 w) (hgb : w0.heap.size ≤ g) (ho : Ok 256 code) (hl : code.length < 1099511627776) (hd : dvF k code = some (r1, r2)) :
    Calls Try.prog 9 #[.pointer (some ⟨g, 0, none⟩)] w fun e w' => ∃ v0_ v1_ : Value, e = .returned (.agg #[v0_, v1_]) ∧ Kd.R (Kd.int .u8) 5 w' w0.heap.size (fun k_ => w.heap.size ≤ k_) v0_ r1 ∧ Kd.V k32 32 w' w0.heap.size (fun k_ => w.heap.size ≤ k_ ∧ some k_ ≠ (v0_ : Value).ownBlock) v1_ r2 ∧ Below w0.heap.size w0 w' ∧ (∀ k_, k_ < w.heap.size → k_ ≠ g → w'.heap[k_]? = w.heap[k_]?) := by
  have hu := Try.underlying25
  have infoE : (Try.prog.info? 5).map (fun i => (i.zero, i.size, i.bytes)) = some (some (.int .u8 0), 1, 1) := by kernel_rfl
  have INFO := Aside0.mk infoE
  have HN := Aside0.mk (fun k n W (hW : W.heap[g]? = some (.cells #[.slice A code.length c, .int .i64 ((k : Nat) : Int), .int .i64 (sdN code (k))] 43 (0, 0))) (hb : Below w0.heap.size w0 W) (hk : k < 1000000) (h1 : 2 ≤ n) (h2 : n ≤ 256) => l00next.calls g A c code k n w0 W hW hC hb hgb ho hk hl h1 h2)
  have HBY := Aside0.mk (fun p W (hW : W.heap[g]? = some (.cells #[.slice A code.length c, .int .i64 ((p : Nat) : Int), .int .i64 (sdN code (p))] 43 (0, 0))) (hb : Below w0.heap.size w0 W) (hp : p < 900000) => l00bytesAt.calls g A c code p 30 w0 W hW hC hb hgb ho hl hp (by omega) (by omega))
  have HG := Aside0.mk hg
  have HB := Aside0.mk hB
  have HGB := Aside0.mk hgb
  obtain ⟨n, hn⟩ : ∃ n, n = (byN code 1 % 4).toNat := ⟨_, rfl⟩
  have hni : byN code 1 % 4 = (n : Int) := by omega
  have hn3 : n ≤ 3 := by omega
  obtain ⟨z, hz⟩ : ∃ z, z = (byN code 0 % 4).toNat := ⟨_, rfl⟩
  have hzi : byN code 0 % 4 = (z : Int) := by omega
  have hz3 : z ≤ 3 := by omega
  have HD0 : dvS k code n = some (r1, r2) := by rw [hn]; exact hd
  have HSM := Aside0.mk (fun j (hj : j ≤ n) => dvS_some k code n (n - j) j (by omega) (by rw [HD0]; rfl))
  have HPL := Aside0.mk (fun j => dvP_le code ho j)
  have HD := Aside0.mk HD0
  have HZ := Aside0.mk (show dvS k code 0 = some (List.replicate (32 * z) 0, []) by rw [hz]; rfl)
  have N0 := Aside0.mk (fun W h1 h2 => HN.out 0 4 W h1 h2 (by omega) (by omega) (by omega))
  have N1 := Aside0.mk (fun W h1 h2 => HN.out 1 4 W h1 h2 (by omega) (by omega) (by omega))
  rw [hzi] at N0
  rw [hni] at N1
  obtain ⟨zz, hzz⟩ : ∃ zz : Int, zz = 32 * (z : Int) := ⟨_, rfl⟩
  have hzw : IntKind.i64.wrap (32 * (z : Int)) = zz := by rw [IntKind.wrap_i64, hzz]; omega
  have hzn : zz.toNat = 32 * z := by omega
  have hz0 : 0 ≤ zz := by omega
  have hz1 : zz ≤ 96 := by omega
  have ZN := Aside0.mk hzn
  have Z0 := Aside0.mk hz0
  have Z1 := Aside0.mk hz1
  clear hg hC hB hgb infoE hn hni hz hzi hd HD0 hzz hzn
  go_enter Try.func9, Try.ntmps9
  go_wp2_with fail
  obtain ⟨w1, hw1⟩ : ∃ W_, W_ = w.alloc (.cells #[.slice none 0 0, .slice none 0 0] 25) := ⟨_, rfl⟩
  obtain ⟨g2, hg2⟩ : ∃ g_, g_ = w.heap.size := ⟨_, rfl⟩
  rw [← hw1, ← hg2]
  have X2 := Aside0.mk (show w1.heap[g2]? = some (.cells #[.slice none 0 0, .slice none 0 0] 25 (0, 0)) by rw [hw1, hg2]; exact blk_new w _)
  have G := Aside0.mk (show w1.heap[g]? = some (.cells #[.slice A code.length c, .int .i64 ((0 : Nat) : Int), .int .i64 (sdN code 0)] 43 (0, 0)) by rw [hw1]; exact blk_alloc HG.out _)
  have B := Aside0.mk (show Below w0.heap.size w0 w1 by rw [hw1]; exact below_alloc HB.out _)
  have NE2 := Aside0.mk (show g2 ≠ g by have := blk_lt HG.out; omega)
  have GE2 := Aside0.mk (show w0.heap.size ≤ g2 by rw [hg2]; exact HB.out.size)
  have EG2 := Aside0.mk hg2
  have GR := Aside0.mk (show ∀ k_, k_ < w.heap.size → k_ ≠ g → w1.heap[k_]? = w.heap[k_]? from fun k_ h_ _ => by rw [hw1]; exact Below.heap_alloc w _ k_ h_)
  clear hw1 hg2
  refine (N0.out _ G.out B.out).mono ?_
  rintro e w2 ⟨rfl, hG, hch⟩
  have X2b := Aside0.mk ((hch.oth g2 NE2.out).trans X2.out); clear X2; have X2 := X2b; clear X2b
  have Bb := Aside0.mk (hch.bel _ _ B.out HGB.out); clear B; have B := Bb; clear Bb
  have GRb := Aside0.mk (show ∀ k_, k_ < w.heap.size → k_ ≠ g → w2.heap[k_]? = w.heap[k_]? from fun k_ h_ n_ => (hch.oth k_ n_).trans (GR.out k_ h_ n_)); clear GR; have GR := GRb; clear GRb
  clear G; have G := Aside0.mk hG; clear hG hch
  go_wp2_with ((with_reducible refine gate_dst (N := 8) rfl ?_); refine Kd.R_make (Kd.int .u8) (w0 := w0) w0.heap.size 5 rfl (N := 8) rfl 22 _ _ rfl zz rfl rfl Try.underlying22 (.int .u8 0) 1 INFO.out rfl (by decide) (by decide) 0 (ok := fun k_ => w.heap.size ≤ k_ ∧ k_ ≠ g ∧ k_ ≠ g2) (okp := fun _ => False) rfl (fun _ h_ => h_.elim) ?hfr Z0.out (by have := Z1.out; omega) B.out B.out.size ?_; (case hfr => exact ⟨by have := blk_lt X2.out; have := EG2.out; omega, by have := blk_lt G.out; omega, by have := blk_lt X2.out; omega⟩); intro v8 w3 ho8 hb hgr hnew_; rw [ZN.out] at ho8; have H8 := Aside0.mk ho8; have G3_ := Aside0.mk ((hgr.block g (blk_lt G.out) (by simp)).trans G.out); have X23_ := Aside0.mk ((hgr.block g2 (blk_lt X2.out) (by simp)).trans X2.out); have B3_ := Aside0.mk hb; have GRb := Aside0.mk (show ∀ k_, k_ < w.heap.size → k_ ≠ g → w3.heap[k_]? = w.heap[k_]? from fun k_ h_ n_ => (hgr.block k_ (by have := blk_lt X2.out; have := EG2.out; omega) (by simp)).trans (GR.out k_ h_ n_)); clear GR; have GR := GRb; clear GRb; clear G X2 B; have G := G3_; have X2 := X23_; have B := B3_; clear G3_ X23_ B3_ hnew_ hgr hb ho8; obtain ⟨A8, c8, rfl⟩ := Kd.R_slice H8.out)
  rw [List.length_replicate] at H8
  obtain ⟨w4, hw4⟩ : ∃ W_, W_ = w3.alloc (.cells #[.slice A8 (32 * z) c8, .slice none 0 0] 25) := ⟨_, rfl⟩
  obtain ⟨g3, hg3⟩ : ∃ g_, g_ = w3.heap.size := ⟨_, rfl⟩
  rw [← hw4, ← hg3]
  have X3 := Aside0.mk (show w4.heap[g3]? = some (.cells #[.slice A8 (32 * z) c8, .slice none 0 0] 25 (0, 0)) by rw [hw4, hg3]; exact blk_new w3 _)
  have NE3 := Aside0.mk (show g3 ≠ g by have := blk_lt G.out; omega)
  have NE23 := Aside0.mk (show g2 ≠ g3 by have := blk_lt X2.out; omega)
  have EG3 := Aside0.mk (show g2 < g3 by have := blk_lt X2.out; omega)
  have GE3 := Aside0.mk (show w0.heap.size ≤ g3 by rw [hg3]; exact B.out.size)
  have H := Aside0.mk (show Kd.R (Kd.int .u8) 5 w4 w0.heap.size (fun k_ => w.heap.size ≤ k_ ∧ k_ ≠ g ∧ k_ ≠ g2 ∧ k_ ≠ g3) (.slice A8 (32 * z) c8) (List.replicate (32 * z) 0) by rw [hw4]; exact Kd.R_alloc (Kd.R_mono (Kd.R_bound H8.out) (fun k_ hk => ⟨hk.1.1, hk.1.2.1, hk.1.2.2, by have := hk.2.2.1; omega⟩)) _)
  have G_ := Aside0.mk (show w4.heap[g]? = some (.cells #[.slice A code.length c, .int .i64 ((1 : Nat) : Int), .int .i64 (sdN code 1)] 43 (0, 0)) by rw [hw4]; exact blk_alloc G.out _)
  have X2_ := Aside0.mk (show w4.heap[g2]? = some (.cells #[.slice none 0 0, .slice none 0 0] 25 (0, 0)) by rw [hw4]; exact blk_alloc X2.out _)
  have B_ := Aside0.mk (show Below w0.heap.size w0 w4 by rw [hw4]; exact below_alloc B.out _)
  have GRb := Aside0.mk (show ∀ k_, k_ < w.heap.size → k_ ≠ g → w4.heap[k_]? = w.heap[k_]? from fun k_ h_ n_ => by rw [hw4]; exact (Below.heap_alloc w3 _ k_ (by have := blk_lt X2.out; have := EG2.out; omega)).trans (GR.out k_ h_ n_)); clear GR; have GR := GRb; clear GRb
  clear hw4 hg3 G X2 B H8
  refine (N1.out _ G_.out B_.out).mono ?_
  rintro e w5 ⟨rfl, hG, hch⟩
  have X2 := Aside0.mk ((hch.oth g2 NE2.out).trans X2_.out)
  have X3b := Aside0.mk ((hch.oth g3 NE3.out).trans X3.out); clear X3; have X3 := X3b; clear X3b
  have B := Aside0.mk (hch.bel _ _ B_.out HGB.out)
  have Hb := Aside0.mk (Kd.R_grown H.out hch.grown (fun k_ hk e_ => hk.2.1 (Option.some.inj e_))); clear H; have H := Hb; clear Hb
  have G := Aside0.mk hG
  have GRb := Aside0.mk (show ∀ k_, k_ < w.heap.size → k_ ≠ g → w5.heap[k_]? = w.heap[k_]? from fun k_ h_ n_ => (hch.oth k_ n_).trans (GR.out k_ h_ n_)); clear GR; have GR := GRb; clear GRb
  clear hG hch G_ X2_ B_ N0 N1 hzw
  generalize hvz : Value.slice A8 (32 * z) c8 = vz at *
  clear hvz
  go_wp2_with fail
  go_loopg [4] (n + 1) (fun gg v4 wr => ∃ (j i : Nat) (h : List Int) (l : List (S32)) (vh vw : Value), i + j = n ∧ i ≤ gg ∧ v4 = .int .i64 (i : Int) ∧ Aside0 (dvS k code j = some (h, l)) ∧ Aside0 (wr.heap[g]? = some (.cells #[.slice A code.length c, .int .i64 (((dvP code j : Nat) : Int)), .int .i64 (sdN code (dvP code j))] 43 (0, 0))) ∧ Aside0 (wr.heap[g2]? = some (.cells #[.slice none 0 0, .slice none 0 0] 25 (0, 0))) ∧ Aside0 (wr.heap[g3]? = some (.cells #[vh, vw] 25 (0, 0))) ∧ Aside0 (Kd.R (Kd.int .u8) 5 wr w0.heap.size (fun k_ => w.heap.size ≤ k_ ∧ k_ ≠ g ∧ k_ ≠ g2 ∧ k_ ≠ g3) vh h) ∧ Aside0 (Kd.V k32 32 wr w0.heap.size (fun k_ => (w.heap.size ≤ k_ ∧ k_ ≠ g ∧ k_ ≠ g2 ∧ k_ ≠ g3) ∧ some k_ ≠ (vh : Value).ownBlock) vw l) ∧ Aside0 (Below w0.heap.size w0 wr) ∧ Aside0 (∀ k_, k_ < w.heap.size → k_ ≠ g → wr.heap[k_]? = w.heap[k_]?))
  case atStart => exact ⟨0, n, List.replicate (32 * z) 0, [], vz, .slice none 0 0, by omega, by omega, rfl, HZ, G, X2, X3, H, ⟨Kd.V_nil _ _ _ _ _⟩, B, GR⟩
  case round =>
    clear G X2 X3 H B GR
    obtain ⟨j, i, h, l, vh, vw, hij, hg, rfl, DS, G, X2, X3, H, V, B, GR⟩ := hrel
    obtain ⟨Aw, cw, rfl⟩ := Kd.V_slice V.out
    rcases Nat.eq_zero_or_pos i with h0 | h0
    · subst h0
      obtain rfl : j = n := by omega
      obtain ⟨rfl, rfl⟩ : h = r1 ∧ l = r2 := by
        have h1 := DS.out.symm.trans HD.out
        injection h1 with h1
        injection h1 with h1 h2
        exact ⟨h1, h2⟩
      have hneg : ¬ ((0 : Nat) : Int) > 0 := by omega
      obtain ⟨Ah, ch, rfl⟩ := Kd.R_slice H.out
      have y0 : wr.cell? ⟨g3, 0, none⟩ = some (.slice Ah h.length ch) := (blk_cell X3.out 0).trans rfl
      have y1 : wr.cell? ⟨g3, 1, none⟩ = some (.slice Aw l.length cw) := (blk_cell X3.out 1).trans rfl
      have x0 : wr.cell? ⟨g2, 0, none⟩ = some (.slice none 0 0) := (blk_cell X2.out 0).trans rfl
      have x1 : wr.cell? ⟨g2, 1, none⟩ = some (.slice none 0 0) := (blk_cell X2.out 1).trans rfl
      have f0 := blk_frozen X2.out 0
      have f1 := blk_frozen X2.out 1
      have ne1 := NE23.out
      have ne2 := NE23.out.symm
      clear hij hg
      go_wp2
      refine bodyPost_ret (results_cell_row rfl _ _ g2 25 #[.slice Ah h.length ch, .slice Aw l.length cw] (0, 0) _ rfl (by refine blk_put (cs := #[.slice Ah h.length ch, .slice none 0 0]) ?_ 1 _ rfl; refine blk_put (cs := #[.slice none 0 0, .slice none 0 0]) ?_ 0 _ rfl; exact X2.out) Try.underlying25 rfl (by kernel_rfl)) rfl ?_
      exact ⟨_, _, rfl, Kd.R_mono (Kd.R_far (p := ⟨g2, 1, none⟩) (Kd.R_far (p := ⟨g2, 0, none⟩) H.out (fun _ hk => hk.2.2.1) _) (fun _ hk => hk.2.2.1) _) (fun _ hk => hk.1), Kd.V_mono (Kd.V_far (p := ⟨g2, 1, none⟩) (Kd.V_far (p := ⟨g2, 0, none⟩) V.out (fun _ hk => hk.1.2.2.1) _) (fun _ hk => hk.1.2.2.1) _) (fun _ hk => ⟨hk.1.1, hk.2⟩), below_set (below_set B.out GE2.out) GE2.out, fun k_ h_ n_ => ((Below.heap_setCell _ ⟨g2, 1, none⟩ _ k_ (by have := EG2.out; show k_ ≠ g2; omega)).trans (Below.heap_setCell _ ⟨g2, 0, none⟩ _ k_ (by have := EG2.out; show k_ ≠ g2; omega))).trans (GR.out k_ h_ n_)⟩
    · obtain ⟨i, rfl⟩ : ∃ k, i = k + 1 := ⟨i - 1, by omega⟩
      have hpos : (((i + 1 : Nat)) : Int) > 0 := by omega
      have hsub : (((i + 1 : Nat)) : Int) - 1 = (i : Int) := by omega
      have hi9 : i < 1000 := by omega
      have hjn : j + 1 ≤ n := by omega
      obtain ⟨⟨h', l'⟩, hx⟩ := Option.isSome_iff_exists.mp (HSM.out (j + 1) hjn)
      have DS2 := Aside0.mk hx
      have hp9 := HPL.out j
      have PS := Aside0.mk (show dvP code (j + 1) = dvP code j + 1 + 1 + srcAM code (dvP code j + 1) 30 from by show dvP code j + 2 + _ = _; omega)
      have hf : spec_l01Write.f k h l (byN code (dvP code j) % 120) (srcA code (dvP code j + 1) (srcAM code (dvP code j + 1) 30)) = some (h', l') := by
        have h1 := hx
        simp only [dvS, DS.out, Option.bind_some] at h1
        exact h1
      obtain ⟨p, hp⟩ : ∃ p, p = dvP code j := ⟨_, rfl⟩
      rw [← hp] at hf PS G hp9
      have hp8 : p < 900000 := by omega
      have NA := Aside0.mk (fun W h1 h2 => HN.out p 120 W h1 h2 (by omega) (by omega) (by omega))
      have BA := Aside0.mk (fun W h1 h2 => HBY.out (p + 1) W h1 h2 (by omega))
      simp only [show ((30 : Nat) : Int) = 30 from rfl] at BA
      obtain ⟨a, ha⟩ : ∃ a, a = byN code p % 120 := ⟨_, rfl⟩
      rw [← ha] at hf NA
      obtain ⟨m, hm⟩ : ∃ m, m = srcAM code (p + 1) 30 := ⟨_, rfl⟩
      rw [← hm] at hf BA PS
      obtain ⟨d, hdd⟩ : ∃ d, d = srcA code (p + 1) m := ⟨_, rfl⟩
      rw [← hdd] at hf BA
      have HF := Aside0.mk hf
      clear hf hx ha hm hdd hp DS hp9 hjn
      have G0 := Aside0.mk (show wr.drew.heap[g]? = _ from G.out)
      have X20 := Aside0.mk (show wr.drew.heap[g2]? = _ from X2.out)
      have X30 := Aside0.mk (show wr.drew.heap[g3]? = _ from X3.out)
      have B0 := Aside0.mk (below_drew1 B.out)
      have H0 := Aside0.mk (Kd.R_drew H.out)
      have V0 := Aside0.mk (Kd.V_drew V.out)
      have GR0 := Aside0.mk (show ∀ k_, k_ < w.heap.size → k_ ≠ g → wr.drew.heap[k_]? = w.heap[k_]? from GR.out)
      clear G X2 X3 B H V GR
      go_wp2_with fail
      refine start_ (n := 7) (S := fun w' => w'.cell? ⟨g3, 0, none⟩ = some vh ∧ w'.cell? ⟨g3, 1, none⟩ = some (.slice Aw l.length cw)) (ds := [6]) #[false, false, false, false, false, false, false] (by kernel_rfl) rfl rfl ⟨(blk_cell X30.out 0).trans rfl, (blk_cell X30.out 1).trans rfl⟩ (fun hHeld => ?_)
      refine pure_ (i := 1) (N := some 17) (v := ?_) (a' := ?_) #[false, true, false, false, false, false, false] rfl rfl (by kernel_rfl) (fun _ _ _ h => h) (Or.inl ⟨by rfl, ?_⟩) ?_ ?_
      rotate_left
      · intro w'; go_simp; with_reducible rfl
      rotate_left
      · simp only [Act.put, OpenRow.s1, OpenRow.s2, OpenRow.s3, i64_w, i32_w]; rfl
      refine pure_ (i := 3) (N := some 19) (v := ?_) (a' := ?_) #[false, true, false, true, false, false, false] rfl rfl (by kernel_rfl) (fun _ _ _ h => h) (Or.inl ⟨by rfl, ?_⟩) ?_ ?_
      rotate_left
      · intro w'; go_simp; with_reducible rfl
      rotate_left
      · simp only [Act.put, OpenRow.s1, OpenRow.s2, OpenRow.s3, i64_w, i32_w]; rfl
      refine take_ (i := 0) (N := some 16) (v := ?_) (a' := ?_) #[true, true, false, true, false, false, false] rfl rfl (by kernel_rfl) (fun _ _ _ h => h) (Or.inl ⟨by rfl, ?_⟩) hHeld ?_ ?_
      rotate_left
      · rintro w' ⟨s0, s1⟩
        go_simp
        with_reducible rfl
      rotate_left
      · simp only [Act.put, OpenRow.s1, OpenRow.s2, OpenRow.s3, i64_w, i32_w]; rfl
      refine one_ (i := 2) (N := some 18) #[true, true, true, true, false, false, false] rfl rfl (by kernel_rfl) (by decide) (fun K hK => ?_)
      refine goes_ Try.func16 (by kernel_rfl) rfl #[.pointer (some ⟨g, 0, none⟩), .int .i64 120] (by rfl) rfl rfl (by simp only [List.map_toArray, List.map_cons, List.map_nil] <;> rfl) ?_
      with_reducible refine (NA.out _ G0.out B0.out).mono ?_
      rintro e w3 ⟨rfl, hG, hch⟩
      refine ⟨_, rfl, ?_⟩
      have G1 := Aside0.mk hG
      have B1 := Aside0.mk (hch.bel _ _ B0.out HGB.out)
      have X21 := Aside0.mk ((hch.oth g2 NE2.out).trans X20.out)
      have X31 := Aside0.mk ((hch.oth g3 NE3.out).trans X30.out)
      have H1 := Aside0.mk (Kd.R_grown H0.out hch.grown (fun k_ hk e_ => hk.2.1 (Option.some.inj e_)))
      have V1 := Aside0.mk (Kd.V_grown V0.out hch.grown (fun k_ hk e_ => hk.1.2.1 (Option.some.inj e_)))
      have GR1 := Aside0.mk (show ∀ k_, k_ < w.heap.size → k_ ≠ g → w3.heap[k_]? = w.heap[k_]? from fun k_ h_ n_ => (hch.oth k_ n_).trans (GR0.out k_ h_ n_))
      clear hG hch
      refine hK.out _ _ ⟨(blk_cell X31.out 0).trans rfl, (blk_cell X31.out 1).trans rfl⟩ (fun hHeld => ?_)
      clear hK K
      refine norm_ (a' := ?_) ?_ ?_
      rotate_left
      · show Act.put _ (some 18) _ = _
        simp only [Act.put, OpenRow.s1, OpenRow.s2, OpenRow.s3, i64_w, i32_w]
        rfl
      refine one_ (i := 4) (N := some 20) #[true, true, true, true, true, false, false] rfl rfl (by kernel_rfl) (by decide) (fun K hK => ?_)
      refine goes_ Try.func18 (by kernel_rfl) rfl #[.pointer (some ⟨g, 0, none⟩), .int .i64 30] (by rfl) rfl rfl (by simp only [List.map_toArray, List.map_cons, List.map_nil] <;> rfl) ?_
      with_reducible refine (BA.out _ G1.out B1.out).mono ?_
      rintro e w4 ⟨vd, rfl, hR, hG, hB, hgr⟩
      refine ⟨_, rfl, ?_⟩
      have LT := Aside0.mk (fun k_ e_ => Kd.R_lt H1.out k_ e_)
      have G2 := Aside0.mk hG
      have B2 := Aside0.mk hB
      have X22 := Aside0.mk ((hgr.block g2 (blk_lt X21.out) (fun e_ => NE2.out (Option.some.inj e_))).trans X21.out)
      have X32 := Aside0.mk ((hgr.block g3 (blk_lt X31.out) (fun e_ => NE3.out (Option.some.inj e_))).trans X31.out)
      have H2 := Aside0.mk (Kd.R_grown H1.out hgr (fun k_ hk e_ => hk.2.1 (Option.some.inj e_)))
      have V2 := Aside0.mk (Kd.V_grown V1.out hgr (fun k_ hk e_ => hk.1.2.1 (Option.some.inj e_)))
      obtain ⟨Ad, cd, rfl⟩ := Kd.R_slice hR
      have CD := Aside0.mk (show ∀ W_, Kept w4 W_ (fun k_ => some k_ = (vh : Value).ownBlock) → Kd.C (Kd.int .u8) W_ Ad d.length d from fun W_ hk_ => (Kd.R_reads' (Kd.R_step (Kd.R_bound hR) (fun k_ ho_ hlt_ => hk_.2 k_ hlt_ (fun e_ => by have h1_ := LT.out k_ e_.symm; have h2_ := ho_.2.1; omega)))).2.2)
      have QD := Aside0.mk (show d.length ≤ cd from (Kd.R_reads' hR).2.1)
      have GR2 := Aside0.mk (show ∀ k_, k_ < w.heap.size → k_ ≠ g → w4.heap[k_]? = w.heap[k_]? from fun k_ h_ n_ => (hgr.block k_ (by have := blk_lt X21.out; have := EG2.out; omega) (fun e_ => n_ (Option.some.inj e_))).trans (GR1.out k_ h_ n_))
      clear hG hB hgr hR
      refine hK.out _ _ ⟨(blk_cell X32.out 0).trans rfl, (blk_cell X32.out 1).trans rfl⟩ (fun hHeld => ?_)
      clear hK K
      refine norm_ (a' := ?_) ?_ ?_
      rotate_left
      · show Act.put _ (some 20) _ = _
        simp only [Act.put, OpenRow.s1, OpenRow.s2, OpenRow.s3, i64_w, i32_w]
        rfl
      refine one_ (i := 5) (N := some 21) #[true, true, true, true, true, true, false] rfl rfl (by kernel_rfl) (by decide) (fun K hK => ?_)
      refine goes_ Try.func17 (by kernel_rfl) rfl #[.agg #[vh, .slice Aw l.length cw], .int .i64 a, .slice Ad d.length cd] (by rfl) rfl rfl (by simp only [List.map_toArray, List.map_cons, List.map_nil] <;> rfl) ?_
      with_reducible refine ((spec_l01Write.calls k (fun k_ => some k_ = (vh : Value).ownBlock) vh h (fun k_ => w.heap.size ≤ k_ ∧ k_ ≠ g ∧ k_ ≠ g2 ∧ k_ ≠ g3) Aw cw l a Ad cd d h' l' w0 _ B2.out (Kd.R_tight rfl H2.out) V2.out CD.out QD.out HF.out)).mono ?_
      rintro e w5 ⟨v0_, v1_, rfl, hR, hN, hB, hK⟩
      refine ⟨_, rfl, ?_⟩
      have Z4 := Aside0.mk (blk_lt G2.out)
      have Z42 := Aside0.mk (blk_lt X22.out)
      have Z43 := Aside0.mk (blk_lt X32.out)
      have OKH := Aside0.mk (fun k_ (e_ : some k_ = (vh : Value).ownBlock) => H2.out.1 k_ e_.symm)
      have G3 := Aside0.mk ((hK.2 g Z4.out (fun e_ => (OKH.out g e_).2.1 rfl)).trans G2.out)
      have X23 := Aside0.mk ((hK.2 g2 Z42.out (fun e_ => (OKH.out g2 e_).2.2.1 rfl)).trans X22.out)
      have X33 := Aside0.mk ((hK.2 g3 Z43.out (fun e_ => (OKH.out g3 e_).2.2.2 rfl)).trans X32.out)
      have hnew : ∀ k_, w4.heap.size ≤ k_ → (w.heap.size ≤ k_ ∧ k_ ≠ g ∧ k_ ≠ g2 ∧ k_ ≠ g3) := fun k_ h_ => by have h1_ := Z4.out; have h2_ := Z42.out; have h3_ := Z43.out; have h4_ := EG2.out; omega
      have H3 := Aside0.mk (Kd.R_mono (ok' := fun k_ => w.heap.size ≤ k_ ∧ k_ ≠ g ∧ k_ ≠ g2 ∧ k_ ≠ g3) hR (fun k_ hk => hk.elim (fun e_ => OKH.out k_ e_) (hnew k_)))
      have V3 := Aside0.mk (Kd.N_V (base' := w0.heap.size) (Kd.N_mono (ok' := fun k_ => (w.heap.size ≤ k_ ∧ k_ ≠ g ∧ k_ ≠ g2 ∧ k_ ≠ g3) ∧ some k_ ≠ (v0_ : Value).ownBlock) hN (fun k_ hk => ⟨hk.1.elim (fun e_ => e_.elim (fun e2_ => OKH.out k_ e2_) (fun e2_ => e2_)) (hnew k_), hk.2⟩)))
      have GR3 := Aside0.mk (show ∀ k_, k_ < w.heap.size → k_ ≠ g → w5.heap[k_]? = w.heap[k_]? from fun k_ h_ n_ => (hK.2 k_ (by have := Z42.out; have := EG2.out; omega) (fun e_ => by have := (OKH.out k_ e_).1; omega)).trans (GR2.out k_ h_ n_))
      have B3 := Aside0.mk hB
      clear hR hN hB hK hnew
      obtain ⟨A0', c0', rfl⟩ := Kd.R_slice H3.out
      obtain ⟨A1', c1', rfl⟩ := Kd.V_slice V3.out
      have hz0 := blk_frozen X33.out 0
      have hz1 := blk_frozen X33.out 1
      have hy0 : w5.cell? ⟨g3, 0, none⟩ = some vh := (blk_cell X33.out 0).trans rfl
      have hy1 : w5.cell? ⟨g3, 1, none⟩ = some (.slice Aw l.length cw) := (blk_cell X33.out 1).trans rfl
      refine hK.out _ _ ⟨(blk_cell X33.out 0).trans rfl, (blk_cell X33.out 1).trans rfl⟩ (fun hHeld => ?_)
      clear hK K
      refine norm_ (a' := ?_) ?_ ?_
      rotate_left
      · show Act.put _ (some 21) _ = _
        simp only [Act.put, OpenRow.s1, OpenRow.s2, OpenRow.s3, i64_w, i32_w]
        rfl
      refine last_ (i := 6) (N := none) #[true, true, true, true, true, true, true] rfl rfl (by kernel_rfl) (by decide) (fun K hK => ?_)
      refine skip_ (w1 := ?_) (by rfl) rfl ?_ ?_
      rotate_left
      · go_simp
        rfl
      refine hK.out _ _ ?_
      clear hK K
      refine done_ (by kernel_rfl) ?_

      obtain ⟨w6, hw6⟩ : ∃ W_, W_ = ((w5.setCell ⟨g3, 0, none⟩ (.slice A0' h'.length c0')).setCell ⟨g3, 1, none⟩ (.slice A1' l'.length c1')) := ⟨_, rfl⟩
      rw [← hw6]
      have X3 := Aside0.mk (show w6.heap[g3]? = some (.cells #[.slice A0' h'.length c0', .slice A1' l'.length c1'] 25 (0, 0)) by rw [hw6]; refine blk_put (cs := #[.slice A0' h'.length c0', .slice Aw l.length cw]) ?_ 1 _ rfl; refine blk_put (cs := #[vh, .slice Aw l.length cw]) ?_ 0 _ rfl; exact X33.out)
      have X2 := Aside0.mk (show w6.heap[g2]? = some (.cells #[.slice none 0 0, .slice none 0 0] 25 (0, 0)) by rw [hw6]; exact blk_far (blk_far X23.out NE23.out _) NE23.out _)
      have G := Aside0.mk (show w6.heap[g]? = some (.cells #[.slice A code.length c, .int .i64 (((dvP code (j + 1) : Nat) : Int)), .int .i64 (sdN code (dvP code (j + 1)))] 43 (0, 0)) by rw [hw6, PS.out]; exact blk_far (blk_far G3.out NE3.out.symm _) NE3.out.symm _)
      have H := Aside0.mk (show Kd.R (Kd.int .u8) 5 w6 w0.heap.size (fun k_ => w.heap.size ≤ k_ ∧ k_ ≠ g ∧ k_ ≠ g2 ∧ k_ ≠ g3) (.slice A0' h'.length c0') h' by rw [hw6]; exact Kd.R_far (p := ⟨g3, 1, none⟩) (Kd.R_far (p := ⟨g3, 0, none⟩) H3.out (fun _ hk => hk.2.2.2) _) (fun _ hk => hk.2.2.2) _)
      have V := Aside0.mk (show Kd.V k32 32 w6 w0.heap.size (fun k_ => (w.heap.size ≤ k_ ∧ k_ ≠ g ∧ k_ ≠ g2 ∧ k_ ≠ g3) ∧ some k_ ≠ ((.slice A0' h'.length c0') : Value).ownBlock) (.slice A1' l'.length c1') l' by rw [hw6]; exact Kd.V_far (p := ⟨g3, 1, none⟩) (Kd.V_far (p := ⟨g3, 0, none⟩) V3.out (fun _ hk => hk.1.2.2.2) _) (fun _ hk => hk.1.2.2.2) _)
      have B := Aside0.mk (show Below w0.heap.size w0 w6 by rw [hw6]; exact below_set (below_set B3.out GE3.out) GE3.out)
      have GR := Aside0.mk (show ∀ k_, k_ < w.heap.size → k_ ≠ g → w6.heap[k_]? = w.heap[k_]? from fun k_ h_ n_ => by rw [hw6]; exact ((Below.heap_setCell _ ⟨g3, 1, none⟩ _ k_ (by have h1_ := EG2.out; have h2_ := EG3.out; show k_ ≠ g3; omega)).trans (Below.heap_setCell _ ⟨g3, 0, none⟩ _ k_ (by have h1_ := EG2.out; have h2_ := EG3.out; show k_ ≠ g3; omega))).trans (GR3.out k_ h_ n_))
      clear hw6 X33 X23 G3 H3 V3 B3 hz0 hz1 hy0 hy1
      go_wp2
      go_roundg i
      case measure => omega
      case rel => exact ⟨j + 1, i, h', l', _, _, by omega, Nat.le_refl _, by first | rfl | go_num, DS2, G, X2, X3, H, V, B, GR⟩


/-! ### spec_DeviceOf: function 4 -/
def spec_DeviceOf.f (k : Nat) (l0 : List Int) : Option (List Int × List (S32)) := if okB l0 && decide (l0.length < 1099511627776) then dvF k l0 else none
theorem spec_DeviceOf.mono : ∀ a0 k, LeO (spec_DeviceOf.f k a0) (spec_DeviceOf.f (k + 1) a0) := by
  intro a0 k r h
  unfold spec_DeviceOf.f at h ⊢
  split
  · rename_i ho
    rw [if_pos ho] at h
    exact dvS_mono a0 _ k r h
  · rename_i ho
    rw [if_neg ho] at h; cases h
set_option maxHeartbeats 4000000 in
set_option maxRecDepth 100000 in
theorem spec_DeviceOf.calls (k : Nat) (A0 : Option Addr) (c0 : Nat) (l0 : List Int) (r1 : List Int) (r2 : List (S32)) (w : World) (hr0 : Kd.C (Kd.int .u8) w A0 l0.length l0) (hc0 : l0.length ≤ c0) (h : spec_DeviceOf.f k l0 = some (r1, r2)) :
    Calls Try.prog 4 #[.slice A0 l0.length c0] w fun e w' => ∃ v0_ v1_ : Value, e = .returned (.agg #[v0_, v1_]) ∧ Kd.R (Kd.int .u8) 5 w' w.heap.size (fun k_ => (w.heap.size ≤ k_)) v0_ r1 ∧ Kd.V k32 32 w' w.heap.size (fun k_ => (w.heap.size ≤ k_) ∧ some k_ ≠ (v0_ : Value).ownBlock) v1_ r2 ∧ Below w.heap.size w w' := by
  have hu := Try.underlying25
  unfold spec_DeviceOf.f at h
  by_cases ho : (okB l0 && decide (l0.length < 1099511627776)) = true
  · rw [if_pos ho] at h
    rw [Bool.and_eq_true, decide_eq_true_iff] at ho
    obtain ⟨w1, hw1⟩ : ∃ W_, W_ = w.alloc (.cells #[.slice none 0 0, .slice none 0 0] 25) := ⟨_, rfl⟩
    obtain ⟨g2, hg2⟩ : ∃ g_, g_ = w.heap.size := ⟨_, rfl⟩
    have X1 := Aside0.mk (show w1.heap[g2]? = some (.cells #[.slice none 0 0, .slice none 0 0] 25 (0, 0)) by rw [hw1, hg2]; exact blk_new w _)
    have B1 := Aside0.mk (show Below w.heap.size w w1 by rw [hw1]; exact below_alloc (Below.refl _ _) _)
    have HS := Aside0.mk (l00Source.calls A0 c0 l0 w1 ho.2)
    have GE := Aside0.mk (show w.heap.size ≤ g2 by omega)
    have X2 := Aside0.mk (show (w1.alloc (.cells #[.slice A0 l0.length c0, .int .i64 0, .int .i64 (sdN l0 0)] 43)).heap[g2]? = _ from blk_alloc X1.out _)
    have HE := Aside0.mk (l00device.calls k r1 r2 w1.heap.size A0 c0 l0 w (w1.alloc (.cells #[.slice A0 l0.length c0, .int .i64 0, .int .i64 (sdN l0 0)] 43)) (blk_new w1 _) hr0 (below_alloc B1.out _) B1.out.size (okB_ok l0 ho.1) ho.2 h)
    clear hr0 ho h
    generalize sdN l0 0 = s0 at *
    go_enter Try.func4, Try.ntmps4
    go_wp2_with fail
    rw [← hw1, ← hg2]
    clear hw1 hg2
    refine HS.out.mono ?_
    rintro e w2 ⟨rfl, rfl⟩
    go_wp2_with fail
    with_reducible refine HE.out.mono ?_
    rintro e w3 ⟨v0, v1, rfl, hR, hV, hB, hGR⟩
    obtain ⟨A', c', rfl⟩ := Kd.R_slice hR
    obtain ⟨A2', c2', rfl⟩ := Kd.V_slice hV
    have NEW := Aside0.mk (show ∀ k_, (w1.alloc (.cells #[.slice A0 l0.length c0, .int .i64 0, .int .i64 s0] 43)).heap.size ≤ k_ → w.heap.size ≤ k_ ∧ k_ ≠ g2 from fun k_ h_ => by have := blk_lt X2.out; have := GE.out; omega)
    have HR := Aside0.mk (Kd.R_mono hR (fun k_ hk => NEW.out k_ hk))
    have HV := Aside0.mk (Kd.V_mono (ok' := fun k_ => (w.heap.size ≤ k_ ∧ k_ ≠ g2) ∧ some k_ ≠ (Value.slice A' r1.length c').ownBlock) hV (fun k_ hk => ⟨NEW.out k_ hk.1, hk.2⟩))
    have X3 := Aside0.mk (show w3.heap[g2]? = some (.cells #[.slice none 0 0, .slice none 0 0] 25 (0, 0)) from (hGR g2 (blk_lt X2.out) (by have := blk_lt X1.out; omega)).trans X2.out)
    have HB := Aside0.mk hB
    clear hR hV hB hGR NEW X2 X1 B1
    have x0 : w3.cell? ⟨g2, 0, none⟩ = some (.slice none 0 0) := (blk_cell X3.out 0).trans rfl
    have x1 : w3.cell? ⟨g2, 1, none⟩ = some (.slice none 0 0) := (blk_cell X3.out 1).trans rfl
    have f0 := blk_frozen X3.out 0
    have f1 := blk_frozen X3.out 1
    go_wp2
    refine bodyPost_ret (results_cell_row rfl _ _ g2 25 #[.slice A' r1.length c', .slice A2' r2.length c2'] (0, 0) _ rfl (by refine blk_put (cs := #[.slice A' r1.length c', .slice none 0 0]) ?_ 1 _ rfl; refine blk_put (cs := #[.slice none 0 0, .slice none 0 0]) ?_ 0 _ rfl; exact X3.out) Try.underlying25 rfl (by kernel_rfl)) rfl ?_
    exact ⟨_, _, rfl, Kd.R_mono (Kd.R_far (p := ⟨g2, 1, none⟩) (Kd.R_far (p := ⟨g2, 0, none⟩) HR.out (fun _ hk => hk.2) _) (fun _ hk => hk.2) _) (fun _ hk => hk.1), Kd.V_mono (Kd.V_far (p := ⟨g2, 1, none⟩) (Kd.V_far (p := ⟨g2, 0, none⟩) HV.out (fun _ hk => hk.1.2) _) (fun _ hk => hk.1.2) _) (fun _ hk => ⟨hk.1.1, hk.2⟩), below_set (below_set HB.out GE.out) GE.out⟩
  · rw [if_neg ho] at h; cases h


/-! ### spec_l00Src_chance: function 19 -/
set_option maxHeartbeats 1000000 in
set_option maxRecDepth 100000 in
theorem l00chance2.calls (g : Nat) (A : Option Addr) (c : Nat) (code : List Int) (k : Nat) (w0 w : World) (hg : w.heap[g]? = some (.cells #[.slice A code.length c, .int .i64 (k : Int), .int .i64 (sdN code k)] 43 (0, 0)))
    (hC : Kd.C (Kd.int .u8) w0 A code.length code) (hB : Below w0.heap.size w0 w) (hgb : w0.heap.size ≤ g) (ho : Ok 256 code) (hk : k < 1000000) (hl : code.length < 1099511627776) :
    Calls Try.prog 19 #[.pointer (some ⟨g, 0, none⟩), .int .i64 2] w fun e w' => e = .returned (.bool (byN code k % 2 == 1)) ∧ w'.heap[g]? = some (.cells #[.slice A code.length c, .int .i64 ((k + 1 : Nat) : Int), .int .i64 (sdN code (k + 1))] 43 (0, 0)) ∧ Ch g w w' := by
  have HY := Aside0.mk (l00next.calls g A c code k 2 w0 w hg hC hB hgb ho hk hl (by omega) (by omega))
  generalize byN code k % 2 = b at *
  clear hg hC hB
  go_enter Try.func19, Try.ntmps19
  go_wp2_with ((with_reducible refine (HY.out).mono ?_); rintro e w1 ⟨rfl, hS, hc⟩; have G1 := Aside0.mk hS; have C1 := Aside0.mk hc; clear hS hc)
  go_ret
  exact ⟨rfl, G1.out, C1.out⟩


/-! ### spec_l00Src_flags: function 10 -/
/-- the flags that are drawn -/
def flA (code : List Int) : Nat → List Bool
  | 0 => []
  | k + 1 => flA code k ++ [byN code (k + 1) % 2 == 1]
def flB (code : List Int) : List Bool := flA code (byN code 0 % 13).toNat
theorem flA_length (code : List Int) (k : Nat) : (flA code k).length = k := by
  induction k with
  | zero => rfl
  | succ k ih => show (flA code k ++ [_]).length = _; rw [List.length_append, ih]; rfl
theorem R_chB {g base : Nat} {e : TypeId} {ok : Nat → Prop} {W W1 : World} {v : Value} {xs : List Bool} (h : Kd.bool.R e W base ok v xs) (hc : Ch g W W1) (hg : g < base) : Kd.bool.R e W1 base ok v xs :=
  Kd.R_grown1 h rfl hc.grown (fun e_ => by have := Kd.R_base h _ e_.symm; omega)
set_option maxHeartbeats 4000000 in
set_option maxRecDepth 100000 in
theorem l00flags.calls (g : Nat) (A : Option Addr) (c : Nat) (code : List Int) (w0 w : World) (hg : w.heap[g]? = some (.cells #[.slice A code.length c, .int .i64 0, .int .i64 (sdN code 0)] 43 (0, 0)))
    (hC : Kd.C (Kd.int .u8) w0 A code.length code) (hB : Below w0.heap.size w0 w) (hgb : w0.heap.size ≤ g) (ho : Ok 256 code) (hl : code.length < 1099511627776) :
    Calls Try.prog 10 #[.pointer (some ⟨g, 0, none⟩), .int .i64 12] w fun e w' => ∃ v, e = .returned v ∧ Kd.R Kd.bool 4 w' w0.heap.size (fun _ => True) v (flB code) ∧ Below w0.heap.size w0 w' := by
  have infoE : (Try.prog.info? 4).map (fun i => (i.zero, i.size, i.bytes)) = some (some (.bool false), 1, 1) := by kernel_rfl
  have INFO := Aside0.mk infoE
  have HN := Aside0.mk (fun W (hW : W.heap[g]? = some (.cells #[.slice A code.length c, .int .i64 ((0 : Nat) : Int), .int .i64 (sdN code 0)] 43 (0, 0))) (hb : Below w0.heap.size w0 W) => l00next.calls g A c code 0 13 w0 W hW hC hb hgb ho (by omega) hl (by omega) (by omega))
  have NB := Aside0.mk (fun j W (hj : j < 1000) (h1 : W.heap[g]? = some (.cells #[.slice A code.length c, .int .i64 (((j + 1 : Nat) : Int)), .int .i64 (sdN code (j + 1))] 43 (0, 0))) (h2 : Below w0.heap.size w0 W) => l00chance2.calls g A c code (j + 1) w0 W h1 hC h2 hgb ho (by omega) hl)
  have HG := Aside0.mk hg
  have HB := Aside0.mk hB
  have HGB := Aside0.mk hgb
  have HGL := Aside0.mk (blk_lt hg)
  obtain ⟨m, hm⟩ : ∃ m, m = (byN code 0 % 13).toNat := ⟨_, rfl⟩
  have hmi : byN code 0 % 13 = (m : Int) := by omega
  have hm13 : m ≤ 13 := by omega
  have EM := Aside0.mk (show flB code = flA code m by rw [hm]; rfl)
  rw [hmi] at HN
  clear hg hC hB hgb infoE hm hmi
  have HWB := Aside0.mk HB.out.size
  go_enter Try.func10, Try.ntmps10
  go_wp2_with (first
    | ((with_reducible refine gate_dst (N := 7) rfl ?_); refine Kd.R_lit (w0 := w) Kd.bool w.heap.size 4 rfl (N := 7) rfl (xs := ([] : List Bool)) (inner := []) (ok := fun _ => True) (okp := fun _ => True) ?hr ?hp (fun _ hk => hk) trivial (Below.refl _ _) (Nat.le_refl _) (by simp) ?_; (case hr => first | (go_simp; done) | (go_simp; rfl)); (case hp => exact Kd.reps_scalar _); intro v1 w1 ho hb hg_ hnew_; have R := Aside0.mk ho; have B := Aside0.mk (below_two HB.out hb HWB.out); have G := Aside0.mk ((hb.block g HGL.out).trans HG.out); have SZ := Aside0.mk hb.size; clear ho hb hg_ hnew_)
    | ((with_reducible refine (HN.out _ G.out B.out).mono ?_); rintro e w2 ⟨rfl, hG, hch⟩; have R := Aside0.mk (R_chB R.out hch HGL.out); have B := Aside0.mk (hch.bel _ _ B.out HGB.out); have SZ := Aside0.mk (by rw [hch.siz]; exact SZ.out : w.heap.size ≤ w2.heap.size); have G := Aside0.mk hG; clear hG hch))
  go_loopg [5, 6] (m + 1) (fun gg v5 v6 wr => ∃ (j i : Nat) (vv : Value), i + j = m ∧ i ≤ gg ∧ v6 = .int .i64 (i : Int) ∧ vv = v5 ∧ Aside0 (Kd.R Kd.bool 4 wr w.heap.size (fun _ => True) vv (flA code j)) ∧ Aside0 (wr.heap[g]? = some (.cells #[.slice A code.length c, .int .i64 (((j + 1 : Nat) : Int)), .int .i64 (sdN code (j + 1))] 43 (0, 0))) ∧ Aside0 (Below w0.heap.size w0 wr) ∧ Aside0 (w.heap.size ≤ wr.heap.size))
  case atStart => exact ⟨0, m, _, by omega, by omega, rfl, rfl, R, G, B, SZ⟩
  case round =>
    clear R G B SZ
    obtain ⟨j, i, vv, hij, hg, rfl, rfl, R, G, B, SZ⟩ := hrel
    rcases Nat.eq_zero_or_pos i with h0 | h0
    · subst h0
      obtain rfl : j = m := by omega
      have hneg : ¬ ((0 : Nat) : Int) > 0 := by omega
      clear hij hg
      go_wp2
      go_ret
      exact ⟨_, rfl, by rw [EM.out]; exact Kd.R_lower R.out HWB.out, B.out⟩
    · obtain ⟨i, rfl⟩ : ∃ k, i = k + 1 := ⟨i - 1, by omega⟩
      have hpos : (((i + 1 : Nat)) : Int) > 0 := by omega
      have hsub : (((i + 1 : Nat)) : Int) - 1 = (i : Int) := by omega
      have hi9 : i < 1000 := by omega
      have EQ := Aside0.mk (show flA code (j + 1) = flA code j ++ [byN code (j + 1) % 2 == 1] from rfl)
      have LL := Aside0.mk (show (flA code j).length + 1 < 1000 by rw [flA_length]; omega)
      have NJ := Aside0.mk (fun W h1 h2 => NB.out j W (by omega) h1 h2)
      generalize (byN code (j + 1) % 2 == 1) = x at *
      generalize flA code j = xs at *
      go_wp2_with (first
        | ((with_reducible refine (NJ.out _ G.out B.out).mono ?_); rintro e w5 ⟨rfl, hG, hch⟩; have R := Aside0.mk (R_chB R.out hch HGL.out); have B := Aside0.mk (hch.bel _ _ B.out HGB.out); have SZ := Aside0.mk (by rw [hch.siz]; exact SZ.out : w.heap.size ≤ w5.heap.size); have G := Aside0.mk hG; clear hG hch)
        | ((with_reducible refine gate_builtin (b := .append) (xs := #[.tmp 16, .tmp 19]) rfl ?_); at_builtin; refine Kd.R_append Kd.bool (w0 := w5) w.heap.size rfl (.tmp 16) (.tmp 19) 27 4 (.bool false) 1 rfl Try.underlying27 INFO.out rfl (by decide) (by decide) vv xs x [.bool x] (fun _ => True) (fun _ => False) rfl rfl ?aP (fun _ hk => hk.elim) ?aF ?aO ?aB ?aS ?aL ?_; (case aP => exact rfl); (case aB => exact (Below.refl _ _)); (case aF => exact (fun _ _ => trivial)); (case aO => exact R.out); (case aS => exact SZ.out); (case aL => have := LL.out; omega); intro v6_ w6 ho hb hg2 hat; rw [← EQ.out] at ho; have R := Aside0.mk ho; have G := Aside0.mk ((hb.block g HGL.out).trans G.out); have B := Aside0.mk (below_two B.out hb HWB.out); have SZ := Aside0.mk (Nat.le_trans SZ.out hb.size); clear ho hb hg2 hat))
      go_roundg i
      case measure => omega
      case rel => exact ⟨j + 1, i, _, by omega, Nat.le_refl _, by first | rfl | go_num, rfl, R, G, B, SZ⟩


/-! ### spec_FlagsOf: function 5 -/
def spec_FlagsOf.f (l0 : List Int) : Option (List Bool) := if okB l0 && decide (l0.length < 1099511627776) then some (flB l0) else none
set_option maxHeartbeats 4000000 in
set_option maxRecDepth 100000 in
theorem spec_FlagsOf.calls (A0 : Option Addr) (c0 : Nat) (l0 : List Int) (r : List Bool) (w : World) (hr0 : Kd.C (Kd.int .u8) w A0 l0.length l0) (hc0 : l0.length ≤ c0) (h : spec_FlagsOf.f l0 = some r) :
    Calls Try.prog 5 #[.slice A0 l0.length c0] w fun e w' => ∃ v0_ : Value, e = .returned (v0_) ∧ Kd.R (Kd.bool) 4 w' w.heap.size (fun _ => True) v0_ r ∧ Below w.heap.size w w' := by
  unfold spec_FlagsOf.f at h
  by_cases ho : (okB l0 && decide (l0.length < 1099511627776)) = true
  · rw [if_pos ho] at h
    obtain rfl := Option.some.inj h
    clear h
    rw [Bool.and_eq_true, decide_eq_true_iff] at ho
    have HS := Aside0.mk (l00Source.calls A0 c0 l0 w ho.2)
    have HE := Aside0.mk (l00flags.calls w.heap.size A0 c0 l0 w (w.alloc (.cells #[.slice A0 l0.length c0, .int .i64 0, .int .i64 (sdN l0 0)] 43)) (blk_new w _) hr0 (below_alloc (Below.refl _ _) _) (Nat.le_refl _) (okB_ok l0 ho.1) ho.2)
    clear hr0 ho
    generalize flB l0 = ls at *
    generalize sdN l0 0 = s0 at *
    go_enter Try.func5, Try.ntmps5
    go_wp2_with (first
      | ((with_reducible refine (HS.out).mono ?_); rintro e w1 ⟨rfl, rfl⟩)
      | ((with_reducible refine (HE.out).mono ?_); rintro e w2 ⟨v, rfl, hR, hb⟩; have HR := Aside0.mk hR; have HB := Aside0.mk hb; clear hR hb))
    go_ret
    exact ⟨_, rfl, HR.out, HB.out⟩
  · rw [if_neg ho] at h; cases h


/-! ### impl_isList_bool: function 11 -/
def impl_isList_bool.f (l0 : List Bool) : Option (Bool) := some (decide ((l0.length : Int) ≤ 4096))
set_option maxHeartbeats 8000000 in
set_option maxRecDepth 100000 in
theorem impl_isList_bool.calls (A0 : Option Addr) (c0 : Nat) (l0 : List Bool) (r : Bool) (w : World) (hr0 : Kd.C Kd.bool w A0 l0.length l0) (hc0 : l0.length ≤ c0) (h : impl_isList_bool.f l0 = some r) :
    Calls Try.prog 11 #[.slice A0 l0.length c0] w fun e w' => e = .returned (.bool r) ∧ Drawn0 w w' := by
  have HR0 := Aside0.mk hr0
  have HC0 := Aside0.mk hc0
  clear hr0 hc0
  have H : (some (decide ((l0.length : Int) ≤ 4096))) = some r := h
  clear h
  obtain rfl := Option.some.inj H
  go_enter Try.func11, Try.ntmps11
  go_wp2
  go_ret
  exact ⟨by first | rfl | (simp; done) | (simp [*]; done), by repeat (first | exact Drawn0.refl _ | apply Drawn0.step)⟩

/-! ### impl_Sector_20: function 20 -/
def impl_Sector_20.f (l0 : List (S32)) : Option (Bool) := some (decide ((l0.length : Int) ≤ 4096))
set_option maxHeartbeats 8000000 in
set_option maxRecDepth 100000 in
theorem impl_Sector_20.calls (A0 : Option Addr) (c0 : Nat) (l0 : List (S32)) (r : Bool) (w : World) (hr0 : Kd.C k32 w A0 l0.length l0) (hc0 : l0.length ≤ c0) (h : impl_Sector_20.f l0 = some r) :
    Calls Try.prog 20 #[.slice A0 l0.length c0] w fun e w' => e = .returned (.bool r) ∧ Drawn0 w w' := by
  have HR0 := Aside0.mk hr0
  have HC0 := Aside0.mk hc0
  clear hr0 hc0
  have H : (some (decide ((l0.length : Int) ≤ 4096))) = some r := h
  clear h
  obtain rfl := Option.some.inj H
  go_enter Try.func20, Try.ntmps20
  go_wp2
  go_ret
  exact ⟨by first | rfl | (simp; done) | (simp [*]; done), by repeat (first | exact Drawn0.refl _ | apply Drawn0.step)⟩

/-! ### impl_Sector_32: function 32 -/
theorem impl_Sector_32.enters_fn {f : FuncId} {fn : Func} (hf : Try.prog.funcs[f]? = some fn) (hname : (fn.name == "runtime.NumGoroutine") = false) (hb : fn.body.isSome = true) : ∀ args w, (callFunc f args).run Try.prog w = .ok (.enter f args) w :=
  fun args w => enters_ hf hname hb args w
set_option maxHeartbeats 2000000 in
theorem impl_Sector_32.calls (g : FuncId) (lb : Array Value) (p : S32 → Bool) (eg : ∀ args w, (callFunc g args).run Try.prog w = .ok (.enter g args) w) (A0 : Option Addr) (c0 : Nat) (l0 : List S32) (w : World) (hr0 : Kd.C k32 w A0 l0.length l0)
    (hp : ∀ (i : Nat) (W : World) (A1 : Option Addr) (c1 : Nat), i < l0.length → Below w.heap.size w W → (rd_T32 l0 i).f1.length ≤ c1 → Kd.C (Kd.int .u8) W A1 (rd_T32 l0 i).f1.length (rd_T32 l0 i).f1 → Calls Try.prog g (#[.agg #[.int .i64 (rd_T32 l0 i).f0, .slice A1 (rd_T32 l0 i).f1.length c1]] ++ lb) W fun e w' => e = .returned (.bool (p (rd_T32 l0 i))) ∧ Below W.heap.size W w') :
    Calls Try.prog 32 #[.slice A0 l0.length c0, .func (.func g) #[] lb] w fun e w' => ∃ r : Int, e = .returned (.int .i64 r) ∧ decide (0 ≤ r) = l0.any p ∧ Below w.heap.size w w' := by
  have HP := Aside0.mk hp
  clear hp
  have HR := Aside0.mk hr0
  clear hr0
  have hlen : l0.length ≤ 9223372036854775807 := HR.out.2.1
  have hu := Try.underlying32
  go_enter Try.func32, Try.ntmps32
  go_wp2
  go_loopg [5, 8] l0.length (fun gg _ s8 wr => ∃ kk : Nat, kk ≤ l0.length ∧ l0.length - kk ≤ gg ∧ s8 = .int .i64 kk ∧ Aside0 (Below w.heap.size w wr) ∧ Aside0 (∀ j, j < kk → p (rd_T32 l0 j) = false))
  case atStart => exact ⟨0, Nat.zero_le _, by omega, rfl, ⟨Below.refl _ _⟩, ⟨fun j hj => absurd hj (Nat.not_lt_zero _)⟩⟩
  case round =>
    obtain ⟨kk, hkk, hg, rfl, HB, A⟩ := hrel
    by_cases hlt : kk < l0.length
    · have hltz : (kk : Int) < (l0.length : Int) := by omega
      have HRr := Aside0.mk (Kd.C_below HR.out HB.out)
      obtain ⟨ad, A1, c1, e1, hx0, hx1, hl1, hC1⟩ := at_T32 HRr.out (kk : Int) (by omega) (by omega)
      cases e1
      simp only [Int.toNat_natCast] at hx0 hx1
      have hcall := HP.out kk wr A1 c1 hlt HB.out hl1 hC1
      clear hl1 hC1
      have hmem : rd_T32 l0 (kk : Int) ∈ l0 := by
        rw [rd_T32, Int.toNat_natCast, List.getD_eq_getElem?_getD, List.getElem?_eq_getElem hlt]; exact List.getElem_mem hlt
      have HM := Aside0.mk hmem
      clear hmem
      cases hq : p (rd_T32 l0 (kk : Int)) with
      | true =>
        rw [hq] at hcall
        have HC := Aside0.mk hcall
        have HQ := Aside0.mk hq
        clear hcall hq
        generalize rd_T32 l0 (kk : Int) = xk at *
        go_wp2_with ((with_reducible refine (HC.out).mono ?_); rintro e w' ⟨rfl, hb⟩)
        go_ret
        refine ⟨_, rfl, ?_, below_step HB.out hb⟩
        rw [List.any_eq_true.2 ⟨xk, HM.out, HQ.out⟩]
        simp
      | false =>
        have HQ := Aside0.mk hq
        have HN : Aside0 (∀ j, j < kk + 1 → p (rd_T32 l0 (j : Nat)) = false) := ⟨fun j hj => by
          by_cases e : j = kk
          · rw [e]; exact HQ.out
          · exact A.out j (by omega)⟩
        rw [hq] at hcall
        have HC := Aside0.mk hcall
        clear hcall hq HQ
        generalize rd_T32 l0 (kk : Int) = xk at *
        go_wp2_with ((with_reducible refine (HC.out).mono ?_); rintro e w' ⟨rfl, hb⟩)
        go_roundg (l0.length - (kk + 1))
        case measure => omega
        case rel => exact ⟨kk + 1, by omega, by omega, by go_num, ⟨below_step HB.out hb⟩, HN⟩
    · have hltz : ¬ (kk : Int) < (l0.length : Int) := by omega
      have hkl : kk = l0.length := by omega
      have HK := Aside0.mk hkl
      clear hkl
      go_wp2
      go_ret
      refine ⟨_, rfl, ?_, HB.out⟩
      have : l0.any p = false := by
        rw [List.any_eq_false]
        intro x hx
        obtain ⟨j, hj, rfl⟩ := List.getElem_of_mem hx
        have := A.out j (by have := HK.out; omega)
        rw [rd_T32, Int.toNat_natCast, List.getD_eq_getElem?_getD, List.getElem?_eq_getElem hj] at this
        simpa using this
      rw [this]; rfl


/-! ### impl_Sector_30: function 30 -/
set_option maxHeartbeats 2000000 in
theorem impl_Sector_30.calls (g : FuncId) (lb : Array Value) (p : S32 → Bool) (eg : ∀ args w, (callFunc g args).run Try.prog w = .ok (.enter g args) w) (A0 : Option Addr) (c0 : Nat) (l0 : List S32) (w : World) (hr0 : Kd.C k32 w A0 l0.length l0)
    (hp : ∀ (i : Nat) (W : World) (A1 : Option Addr) (c1 : Nat), i < l0.length → Below w.heap.size w W → (rd_T32 l0 i).f1.length ≤ c1 → Kd.C (Kd.int .u8) W A1 (rd_T32 l0 i).f1.length (rd_T32 l0 i).f1 → Calls Try.prog g (#[.agg #[.int .i64 (rd_T32 l0 i).f0, .slice A1 (rd_T32 l0 i).f1.length c1]] ++ lb) W fun e w' => e = .returned (.bool (p (rd_T32 l0 i))) ∧ Below W.heap.size W w') :
    Calls Try.prog 30 #[.slice A0 l0.length c0, .func (.func g) #[] lb] w fun e w' => e = .returned (.bool (l0.any p)) ∧ Below w.heap.size w w' := by
  have HC := Aside0.mk (impl_Sector_32.calls g lb p eg A0 c0 l0 w hr0 hp)
  clear hp hr0
  go_enter Try.func30, Try.ntmps30
  go_wp2_with ((with_reducible refine (HC.out).mono ?_); rintro e w' ⟨r, rfl, hr, hb⟩; have HQ := Aside0.mk hr; clear hr)
  go_ret
  refine ⟨?_, hb⟩
  rw [← HQ.out]; rfl


/-! ### impl_Sector_21: function 21 -/
set_option maxHeartbeats 2000000 in
theorem impl_Sector_21.lit (g : FuncId) (lb : Array Value) (b : Bool) (eg : ∀ args w, (callFunc g args).run Try.prog w = .ok (.enter g args) w) (x0 : Int) (A1 : Option Addr) (n1 c1 : Nat) (a : Addr) (w : World) (ha : w.cell? a = some (.func (.func g) #[] lb))
    (hp : ∀ W, Below w.heap.size w W → Calls Try.prog g (#[.agg #[.int .i64 x0, .slice A1 n1 c1]] ++ lb) W fun e w' => e = .returned (.bool b) ∧ Below W.heap.size W w') :
    Calls Try.prog 31 #[.agg #[.int .i64 x0, .slice A1 n1 c1], .pointer (some a)] w fun e w' => e = .returned (.bool (!b)) ∧ Below w.heap.size w w' := by
  have hu := Try.underlying32
  have h1 : Below w.heap.size w (w.alloc (.cells #[.int .i64 x0, .slice A1 n1 c1] 32)) := below_alloc (Below.refl _ _) _
  have HC := Aside0.mk (hp _ h1)
  have H1 := Aside0.mk h1
  have ha2 : (w.alloc (.cells #[.int .i64 x0, .slice A1 n1 c1] 32)).cell? a = some (.func (.func g) #[] lb) := Lib.cell?_alloc_some _ ha
  clear hp h1 ha
  go_enter Try.func31, Try.ntmps31
  go_wp2_with ((with_reducible refine (HC.out).mono ?_); rintro e w' ⟨rfl, hb⟩)
  go_ret
  exact ⟨rfl, below_step H1.out hb⟩

set_option maxHeartbeats 2000000 in
theorem impl_Sector_21.calls (g : FuncId) (lb : Array Value) (p : S32 → Bool) (eg : ∀ args w, (callFunc g args).run Try.prog w = .ok (.enter g args) w) (A0 : Option Addr) (c0 : Nat) (l0 : List S32) (w : World) (hr0 : Kd.C k32 w A0 l0.length l0)
    (hp : ∀ (i : Nat) (W : World) (A1 : Option Addr) (c1 : Nat), i < l0.length → Below w.heap.size w W → (rd_T32 l0 i).f1.length ≤ c1 → Kd.C (Kd.int .u8) W A1 (rd_T32 l0 i).f1.length (rd_T32 l0 i).f1 → Calls Try.prog g (#[.agg #[.int .i64 (rd_T32 l0 i).f0, .slice A1 (rd_T32 l0 i).f1.length c1]] ++ lb) W fun e w' => e = .returned (.bool (p (rd_T32 l0 i))) ∧ Below W.heap.size W w') :
    Calls Try.prog 21 #[.slice A0 l0.length c0, .func (.func g) #[] lb] w fun e w' => e = .returned (.bool (l0.all p)) ∧ Below w.heap.size w w' := by
  have HP := Aside0.mk hp
  have HR := Aside0.mk hr0
  clear hp hr0
  have HE := Aside0.mk eg
  have h1 : Below w.heap.size w (w.alloc (.cells #[.func (.func g) #[] lb] 51)) := below_alloc (Below.refl _ _) _
  have h2 : (w.alloc (.cells #[.func (.func g) #[] lb] 51)).cell? ⟨w.heap.size, 0, none⟩ = some (.func (.func g) #[] lb) := by go_simp
  have h3 : w.heap.size < (w.alloc (.cells #[.func (.func g) #[] lb] 51)).heap.size := by simp
  have HC := Aside0.mk (impl_Sector_30.calls 31 #[.pointer (some ⟨w.heap.size, 0, none⟩)] (fun x => !p x) (impl_Sector_32.enters_fn Try.func31 rfl rfl) A0 c0 l0 (w.alloc (.cells #[.func (.func g) #[] lb] 51)) (Kd.C_below HR.out h1) (fun i W A1 c1 hi hb hl1 hC1 =>
    impl_Sector_21.lit g lb (p (rd_T32 l0 i)) HE.out _ A1 _ c1 ⟨w.heap.size, 0, none⟩ W (by rw [hb.cell (p := ⟨w.heap.size, 0, none⟩) h3]; exact h2) (fun W2 hb2 => HP.out i W2 A1 c1 hi (below_step h1 (below_step hb hb2)) hl1 (Kd.C_below hC1 hb2))))
  have H1 := Aside0.mk h1
  clear h1 h2 h3
  go_enter Try.func21, Try.ntmps21
  go_wp2_with ((with_reducible refine (HC.out).mono ?_); rintro e w' ⟨rfl, hb⟩)
  go_ret
  refine ⟨?_, below_step H1.out hb⟩
  rw [List.all_eq_not_any_not]; rfl


/-! ### impl_DeviceOK: function 12 -/
def impl_DeviceOK.ok (s : S32) : Bool := (impl_DeviceOK_1.f s.f0 s.f1).getD false
theorem impl_DeviceOK.lit_some (s : S32) : impl_DeviceOK_1.f s.f0 s.f1 = some (impl_DeviceOK.ok s) := by
  unfold impl_DeviceOK.ok impl_DeviceOK_1.f impl_within.f
  repeat' (first | rfl | split | (simp only [Option.bind_some]))
def impl_DeviceOK.f (l0_0 : List Int) (l0_1 : List (S32)) : Option (Bool) := some (decide ((l0_0.length : Int) % 32 = 0) && (decide ((l0_0.length : Int) ≤ 4096) && (decide ((l0_1.length : Int) ≤ 4096) && l0_1.all impl_DeviceOK.ok)))
set_option maxHeartbeats 4000000 in
set_option maxRecDepth 100000 in
theorem impl_DeviceOK.calls (A0_0 : Option Addr) (c0_0 : Nat) (l0_0 : List Int) (A0_1 : Option Addr) (c0_1 : Nat) (l0_1 : List (S32)) (r : Bool) (w : World) (hr0_0 : Kd.C (Kd.int .u8) w A0_0 l0_0.length l0_0) (hc0_0 : l0_0.length ≤ c0_0) (hr0_1 : Kd.C k32 w A0_1 l0_1.length l0_1) (hc0_1 : l0_1.length ≤ c0_1) (h : impl_DeviceOK.f l0_0 l0_1 = some r) :
    Calls Try.prog 12 #[.agg #[.slice A0_0 l0_0.length c0_0, .slice A0_1 l0_1.length c0_1]] w fun e w' => e = .returned (.bool r) ∧ Below w.heap.size w w' := by
  have hu := Try.underlying25
  have hm0 : l0_0.length ≤ 9223372036854775807 := hr0_0.2.1
  have hm1 : l0_1.length ≤ 9223372036854775807 := hr0_1.2.1
  have hr := Option.some.inj h
  clear h
  have hB : Below w.heap.size w (w.alloc (.cells #[.slice A0_0 l0_0.length c0_0, .slice A0_1 l0_1.length c0_1] 25)) := below_alloc (Below.refl _ _) _
  have HB := Aside0.mk hB
  have HR1 := Aside0.mk (Kd.C_below hr0_1 hB)
  have HC1 := Aside0.mk hc0_1
  clear hr0_0 hr0_1 hc0_0 hc0_1 hB
  have hL : ∀ (b : Bool) (W : World), Kd.C k32 W A0_1 l0_1.length l0_1 → decide ((l0_1.length : Int) ≤ 4096) = b → Calls Try.prog 20 #[.slice A0_1 l0_1.length c0_1] W fun e w' => e = .returned (.bool b) ∧ Drawn0 W w' :=
    fun b W hC hb => impl_Sector_20.calls A0_1 c0_1 l0_1 b W hC HC1.out (by rw [← hb]; rfl)
  by_cases c1 : (l0_0.length : Int) % 32 = 0
  · have d1 : ((l0_0.length : Int) % 32 == 0) = true := by simpa using c1
    rw [decide_eq_true c1, Bool.true_and] at hr
    by_cases c2 : (l0_0.length : Int) ≤ 4096
    · have d2 : decide ((l0_0.length : Int) ≤ 4096) = true := decide_eq_true c2
      rw [d2, Bool.true_and] at hr
      by_cases c3 : (l0_1.length : Int) ≤ 4096
      · rw [decide_eq_true c3, Bool.true_and] at hr
        have HL := Aside0.mk (fun W hC => hL true W hC (decide_eq_true c3))
        have HA := Aside0.mk (fun W hC => impl_Sector_21.calls 22 #[] impl_DeviceOK.ok (impl_Sector_32.enters_fn Try.func22 rfl rfl) A0_1 c0_1 l0_1 W hC
          (fun i W2 A1 c1 hi hb hl hC2 => (impl_DeviceOK_1.calls _ A1 c1 _ _ W2 hC2 hl (impl_DeviceOK.lit_some _))))
        have HQ := Aside0.mk hr
        clear c1 c2 c3 hr hL
        go_enter Try.func12, Try.ntmps12
        go_wp2_with (first
          | ((with_reducible refine (HL.out _ HR1.out).mono ?_); rintro e w1 ⟨rfl, ⟨m1, rfl⟩⟩)
          | ((with_reducible refine (HA.out _ (Kd.C_below HR1.out (pw_below_drewN (Below.refl _ _) _))).mono ?_); rintro e w2 ⟨rfl, hb⟩))
        go_ret
        exact ⟨by rw [← HQ.out]; rfl, below_step HB.out (below_step (pw_below_drewN (Below.refl _ _) _) hb)⟩
      · rw [decide_eq_false c3, Bool.false_and] at hr
        have HL := Aside0.mk (fun W hC => hL false W hC (decide_eq_false c3))
        have HQ := Aside0.mk hr
        clear c1 c2 c3 hr hL
        go_enter Try.func12, Try.ntmps12
        go_wp2_with ((with_reducible refine (HL.out _ HR1.out).mono ?_); rintro e w1 ⟨rfl, ⟨m1, rfl⟩⟩)
        go_ret
        exact ⟨by rw [← HQ.out]; rfl, pw_below_drewN HB.out _⟩
    · have d2 : decide ((l0_0.length : Int) ≤ 4096) = false := decide_eq_false c2
      rw [d2, Bool.false_and] at hr
      have HQ := Aside0.mk hr
      clear c1 c2 hr hL
      go_enter Try.func12, Try.ntmps12
      go_wp2
      go_ret
      exact ⟨by rw [← HQ.out]; rfl, HB.out⟩
  · have d1 : ((l0_0.length : Int) % 32 == 0) = false := by simpa using c1
    rw [decide_eq_false c1, Bool.false_and] at hr
    have HQ := Aside0.mk hr
    clear c1 hr hL
    go_enter Try.func12, Try.ntmps12
    go_wp2
    go_ret
    exact ⟨by rw [← HQ.out]; rfl, HB.out⟩


/-! ### slices_Clone_byte_byte: function 24 -/
def slices_Clone_byte_byte.f (l0 : List (Int)) : Option (List (Int)) := if l0.length < 140737488355328 then some l0 else none
set_option maxHeartbeats 4000000 in
set_option maxRecDepth 100000 in
theorem slices_Clone_byte_byte.calls (A0 : Option Addr) (c0 : Nat) (l0 : List (Int)) (r : List (Int)) (w : World) (hr0 : Kd.C (Kd.int .u8) w A0 l0.length l0) (hc0 : l0.length ≤ c0) (h : slices_Clone_byte_byte.f l0 = some r) :
    Calls Try.prog 24 #[.slice A0 l0.length c0] w fun e w' => ∃ v0_ : Value, e = .returned (v0_) ∧ Kd.R (Kd.int .u8) 5 w' w.heap.size (fun _ => True) v0_ r ∧ Below w.heap.size w w' := by
  unfold slices_Clone_byte_byte.f at h
  have hs : l0.length < 140737488355328 := Decidable.byContradiction fun hs => by rw [if_neg hs] at h; cases h
  rw [if_pos hs] at h
  obtain rfl := Option.some.inj h
  clear h
  have q22 : ∀ (W : World) (a : Option Addr) (n c n' c' : Nat), (binOp .eql 22 (.slice a n c) (.slice none n' c')).run Try.prog W = .ok (.bool a.isNone) W := fun W a n c n' c' => Lib.run_eql_slice_nil W _ _ a n c n' c' Try.underlying22
  have infoE : (Try.prog.info? 5).map (fun i => (i.zero, i.size, i.bytes)) = some (some (.int .u8 0), 1, 1) := by kernel_rfl
  have INFO := Aside0.mk infoE
  clear infoE
  have HR0 := Aside0.mk hr0
  have HB := Aside0.mk (Below.refl w.heap.size w)
  have LM := Aside0.mk hs
  cases A0 with
  | none =>
    have hz : l0 = [] := by
      have h2 := hr0.2.2
      cases l0 with
      | nil => rfl
      | cons x xs => obtain ⟨ad, e, _⟩ := h2 (by simp); cases e
    subst hz
    clear hr0 hc0 hs
    go_enter Try.func24, Try.ntmps24
    go_wp2
    go_ret
    exact ⟨_, rfl, Kd.R_nil _ _ _ _ _, HB.out⟩
  | some ad =>
    have Ny := Aside0.mk (show l0 = [] ++ l0 from rfl)
    clear hr0 hs
    go_enter Try.func24, Try.ntmps24
    go_wp2_with (first
      | ((with_reducible refine gate_dst (N := 5) rfl ?_); refine Kd.R_lit (Kd.int .u8) _ 5 ?hg (N := 5) ?hd (xs := []) (inner := []) (ok := fun _ => True) (okp := fun _ => True) ?hr ?hp (fun _ hk => hk) trivial (Below.refl _ _) (Nat.le_refl _) (by simp) ?_; (case hd => rfl); (case hg => rfl); (case hr => first | (go_simp; done) | (go_simp; rfl)); (case hp => exact Reps.none _ _); intro v126 w5 ho6 hb hg_ hnew_; clear hg_ hnew_; have n0_ := Aside0.mk (Kd.R_lower ho6 (below_size HB.out)); have n1_ := Aside0.mk (below_step HB.out hb); clear HB; have HO127 := n0_; have HB := n1_; clear n0_ n1_; clear hb ho6)
      | ((with_reducible refine gate_builtin (b := .append) (xs := #[.tmp 5, .tmp 6]) rfl ?_); at_builtin; refine Kd.R_append_rows (Kd.int .u8) (w0 := w) w.heap.size rfl (.tmp 5) (.tmp 6) 22 5 (.int .u8 0) 1 rfl Try.underlying22 INFO.out rfl (by decide) (by decide) v126 [] l0 _ _ _ (fun _ => True) (fun _ => False) rfl rfl ?aO ?aR (fun _ _ h => h) (fun _ h => h.elim) ?aF ?aB ?aS ?aL ?_; (case aR => exact (Kd.C_below HR0.out HB.out)); (case aB => exact HB.out); (case aF => exact (fun _ _ => trivial)); (case aO => exact HO127.out); (case aS => exact (below_size HB.out)); (case aL => have := LM.out; simp only [List.length_nil, Nat.zero_add]; omega); intro v129 w7 ho hb hg hat; rw [← Ny.out] at ho; have n0_ := Aside0.mk (hb); have n1_ := Aside0.mk (ho); clear HB; clear HO127; have HB := n0_; have HO130 := n1_; clear n0_ n1_; clear ho hb hg hat))
    go_ret
    exact ⟨_, rfl, Kd.R_mono HO130.out (fun _ hk => trivial), HB.out⟩


end Go.Proofs.Ytmkemagjedihmaa.XC
