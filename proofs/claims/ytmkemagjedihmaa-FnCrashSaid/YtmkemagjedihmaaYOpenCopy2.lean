/- Plain facts on 'copy(b[at:], data)' into a row of bytes that a call has made, wherever the place stands. -/
import Derived.Test.YtmkemagjedihmaaYOpenCopy
namespace Go.Proofs.Ytmkemagjedihmaa.OpenCopy2
open Go.RowKit Go.Proofs.YtmkemagjedihmaaW.PrintWords Go.Proofs.YtmkemagjedihmaaW.PrintLast Go.Proofs.YtmkemagjedihmaaW.PrintMore Go.Proofs.Ytmkemagjedihmaa.OpenCopy
/-- the bytes L with S laid over them from place a on -/
def cpL (L S : List Int) (a : Int) : List Int := spliced L S a.toNat
theorem cpL_length (L S : List Int) (a : Int) (h : a.toNat + S.length ≤ L.length) : (cpL L S a).length = L.length := spliced_length _ _ _ h
theorem cut_any {P : Program} (t e : TypeId) (kl : IntKind) {i : TypeInfo} (ht : P.underlying t = some (.slice e)) (hi : P.info? e = some i) (hsz : i.size = 1) (A : Option Addr) (n cap : Nat) (off : Int) (h0 : 0 ≤ off) (h1 : off ≤ n) :
    ∃ dp, (∀ W, (Instr.slice t (.slice A n cap) (some (.int kl off)) none none).run P W = .ok (.slice dp (n - off.toNat) (cap - off.toNat)) W) ∧ (∀ g, A = some ⟨g, 0, none⟩ → off.toNat < cap → dp = some ⟨g, off.toNat, none⟩) := by
  have hel : P.elem t = e := by simp [Program.elem, ht]
  have hu : P.underlying t = some (.slice (P.elem t)) := by rw [hel]; exact ht
  refine ⟨if cap = off.toNat then A else A.map (·.add (off.toNat * 1)), fun W => ?_, fun g hg hlt => ?_⟩
  · rw [run_slice_l W t A n cap hu kl off h0 h1, hel]
    simp [sizeOf, typeInfo, hi, hsz, sliced, Result.andThen]
  · subst hg
    rw [if_neg (by omega)]
    simp [Addr.add]; omega
theorem wp_copy {P : Program} {W : World} {ops : Array Oper} {rest : List Oper} {o : Oper} {a : Act} {Q : Exit → Act → World → Prop} {w0 : World} (base : Nat) (hgd : o.guard = none) (d s : Operand) (dT sT : TypeId)
    (ho : o.op = .call { callee := .builtin .copy, args := #[d, s], argTypes := #[dT, sT] }) (e : TypeId) (hu : P.underlying dT = some (.slice e)) (hsz : (P.info? e).map (·.size) = some 1)
    (dp A A2 : Option Addr) (n cap m c2 : Nat) (off : Int) (L S : List Int) (ok : Nat → Prop) (hd : a.eval d = .slice dp (n - off.toNat) (cap - off.toNat)) (hs : a.eval s = .slice A2 m c2)
    (HO : Kd.R (Kd.int .u8) e W base ok (.slice A n cap) L) (HC : Kd.C (Kd.int .u8) W A2 m S) (hdp : ∀ g, A = some ⟨g, 0, none⟩ → off.toNat < cap → dp = some ⟨g, off.toNat, none⟩) (hfit : off.toNat + m ≤ n) (HB : Below base w0 W)
    (h : ∀ w1, Kd.R (Kd.int .u8) e w1 base ok (.slice A n cap) (cpL L S off) → Below base w0 w1 → W.grownBy w1 (Value.slice A n cap).ownBlock → wpList P ops Q rest (a.put o.dst (goInt m)) w1) : wpList P ops Q (o :: rest) a W := by
  have hm : S.length = m := HC.1
  have hn : n = L.length := (Kd.R_reads' HO).1
  by_cases c : m = 0
  · subst c
    have hS : S = [] := List.eq_nil_of_length_eq_zero hm
    refine wpList_copy_nothing hgd d s dT sT ho e hu hsz dp A2 (n - off.toNat) (cap - off.toNat) 0 c2 hd hs (by simp) ?_
    refine h W ?_ HB (World.grownBy.refl W _)
    have : cpL L S off = L := by rw [hS]; simp [cpL, spliced]
    rw [this]; exact HO
  · obtain ⟨g, cap', hv, hg1, hg2, _⟩ := Kd.R_form HO (by omega)
    injection hv with hA _ hc
    subst hA hc
    obtain ⟨cur, q1, q2, q3, q4, q5, q6, q7, q8⟩ := R_cur HO
    obtain rfl := hdp g rfl (by omega)
    obtain ⟨ad, rfl, hcell⟩ := HC.2.2 (by omega)
    have hnl : (nums .u8 S).length = m := by simp [nums, hm]
    refine wpList_copy_own hgd d s dT sT ho e hu hsz g off.toNat (n - off.toNat) (cap - off.toNat) ad m c2 hd hs cur e q1 (nums .u8 S) ?_ ?_ (by omega) ?_ ?_
    · rw [hnl]; exact (Nat.min_eq_left (by omega)).symm
    · intro j u hj
      have hjl : j < S.length := by have := (List.getElem?_eq_some_iff.1 hj).1; omega
      obtain ⟨c, hc1, hc2, hc3⟩ := hcell j _ (List.getElem?_eq_getElem hjl)
      have hc2' : c = [.int .u8 S[j]] := hc2
      have := hc3 0 (.int .u8 S[j]) (by rw [hc2']; rfl)
      rw [show (Kd.int .u8).sz = 1 from rfl, Nat.mul_one, Nat.add_zero] at this
      rw [this, ← hj]
      simp [nums, hjl]
    · intro v hv; simp only [nums, List.mem_map] at hv; obtain ⟨x, _, rfl⟩ := hv; rfl
    · rw [hnl]
      have hR := R_copy (S := S) (off := off.toNat) q1 q2 q3 q4 q5 q6 q7 q8 (by omega)
      rw [hnl] at hR
      refine h _ hR (below_setRow HB q7 _) ⟨rfl, rfl, rfl, by simp, fun k _ hk => setRow_other W g k _ (fun e => hk (by rw [e]; rfl))⟩
end Go.Proofs.Ytmkemagjedihmaa.OpenCopy2
