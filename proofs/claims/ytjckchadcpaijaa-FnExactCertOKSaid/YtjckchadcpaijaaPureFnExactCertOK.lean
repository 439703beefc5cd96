/- The program's CertOK and the reference's give the same answer for every certificate, and write into nothing; no condition beyond the statement's own. -/
import Derived.Test.YtjckchadcpaijaaYDCertEq
namespace Go.Proofs.Ytjckchadcpaijaa.Pure
open Go.RowKit Go.Proofs.Ytjckchadcpaijaa.Num Go.Proofs.Ytjckchadcpaijaa.YD Go.Proofs.Ytjckchadcpaijaa.XD Go.Proofs.YtjckchadcpaijaaW.PrintWords Go.Proofs.YtjckchadcpaijaaW.PrintLast

theorem szCert_is (s : Int) (is su : ByteArray) (fr tu : Int) (key : List Int) (ca : Bool) (h1 : is.size ≤ 140737488351232) (h2 : su.size ≤ 140737488351232) (h3 : key.length ≤ 140737488351232) :
    ∃ z, laws_szCert.f s is su fr tu key ca 1048576 = some z ∧ (0 ≤ z → is.size ≤ 1048576 ∧ su.size ≤ 1048576 ∧ key.length ≤ 1048576) := by
  unfold laws_szCert.f laws_szByteS.f
  rw [w64 (n := 1048576 - (is.size : Int)) (by omega) (by omega), w64 (n := 1048576 - (is.size : Int) - (su.size : Int)) (by omega) (by omega), w64 (n := 1048576 - (is.size : Int) - (su.size : Int) - (key.length : Int)) (by omega) (by omega)]
  by_cases c1 : 1048576 - (is.size : Int) < 0
  · exact ⟨-1, by rw [if_pos c1], fun h => by omega⟩
  · rw [if_neg c1]
    by_cases c2 : 1048576 - (is.size : Int) - (su.size : Int) < 0
    · exact ⟨-1, by rw [if_pos c2], fun h => by omega⟩
    · rw [if_neg c2]
      by_cases c3 : 1048576 - (is.size : Int) - (su.size : Int) - (key.length : Int) < 0
      · exact ⟨-1, by rw [if_pos c3]; rfl, fun h => by omega⟩
      · refine ⟨1048576 - (is.size : Int) - (su.size : Int) - (key.length : Int), ?_, fun h => by omega⟩
        rw [if_neg c3]
        simp only [Option.bind_some]
        rw [if_neg c3]

theorem toCert_is (s : Int) (is su : ByteArray) (fr tu : Int) (key : List Int) (ca : Bool) (h : key.length < 1099511627776) : Ev (fun k => laws_toCert.f k s is su fr tu key ca) (s, is, su, fr, tu, key, ca) := by
  unfold laws_toCert.f
  exact Ev.bind (toByteS key h) (Ev.now _)

def certB (s : Int) (is su : ByteArray) (fr tu : Int) (key : List Int) : Bool :=
  (decide (1 ≤ s) && decide (s ≤ 1000000)) && (nameB is && (nameB su && ((decide (0 ≤ fr) && decide (fr ≤ 253402300799)) && ((decide (fr ≤ tu) && decide (tu ≤ 253402300799)) && ((key.length : Int) == 32)))))

theorem spec_cert (s : Int) (is su : ByteArray) (fr tu : Int) (key : List Int) (ca : Bool) (h1 : is.size < 1099511627776) (h2 : su.size < 1099511627776) : Ev (fun k => spec_CertOK.f k s is su fr tu key ca) (certB s is su fr tu key) := by
  unfold spec_CertOK.f certB
  simp only [in_is, Option.bind_some]
  cases (decide (1 ≤ s) && decide (s ≤ 1000000)) with
  | false => simp only [Bool.false_eq_true, if_false, Bool.false_and]; exact Ev.now _
  | true =>
    simp only [if_true, Bool.true_and]
    refine Ev.bind (spec_name is h1) ?_
    cases nameB is with
    | false => simp only [Bool.false_eq_true, if_false, Bool.false_and]; exact Ev.now _
    | true =>
      simp only [if_true, Bool.true_and]
      refine Ev.bind (spec_name su h2) ?_
      cases nameB su with
      | false => simp only [Bool.false_eq_true, if_false, Bool.false_and]; exact Ev.now _
      | true =>
        simp only [if_true, Bool.true_and]
        cases (decide (0 ≤ fr) && decide (fr ≤ 253402300799)) with
        | false => simp only [Bool.false_eq_true, if_false, Bool.false_and]; exact Ev.now _
        | true =>
          simp only [if_true, Bool.true_and]
          cases (decide (fr ≤ tu) && decide (tu ≤ 253402300799)) with
          | false => simp only [Bool.false_eq_true, if_false, Bool.false_and]; exact Ev.now _
          | true => simp only [if_true, Bool.true_and]; exact Ev.now _

theorem impl_cert (s : Int) (is su : ByteArray) (fr tu : Int) (key : List Int) (ca : Bool) (h1 : is.size < 1099511627776) (h2 : su.size < 1099511627776) : impl_CertOK.f s is su fr tu key ca = some (certB s is su fr tu key) := by
  unfold impl_CertOK.f certB impl_isSerial.f impl_isTime.f impl_isSeed.f
  simp only [impl_subject is h1, impl_subject su h2, within_is, Option.bind_some]
  cases nameB is <;> cases nameB su <;> cases (decide (1 ≤ s) && decide (s ≤ 1000000)) <;> cases (decide (0 ≤ fr) && decide (fr ≤ 253402300799)) <;> cases (decide (fr ≤ tu) && decide (tu ≤ 253402300799)) <;> rfl

theorem FnExactCertOK : laws_FnExactCertOK.Pure := by
  intro s is su fr tu key ca hs his hsu hfr hto hkey
  refine Ev.rounds (g := fun k => laws_FnExactCertOK.f k s is su fr tu key ca) ?_
  obtain ⟨z, hz, hz1⟩ := szCert_is s is su fr tu key ca his hsu (by omega)
  unfold laws_FnExactCertOK.f
  simp only [hz, Option.bind_some]
  by_cases c : z < 0
  · simp only [if_pos c]; exact Ev.now _
  · simp only [if_neg c]
    obtain ⟨b1, b2, b3⟩ := hz1 (by omega)
    have ht := toCert_is s is su fr tu key ca (by omega)
    refine Ev.bind ht ?_
    refine Ev.bind (spec_cert s is su fr tu key ca (by omega) (by omega)) (Ev.bind ht ?_)
    simp only [impl_cert s is su fr tu key ca (by omega) (by omega), Option.bind_some, bne_self_eq_false, Bool.false_eq_true, if_false]
    refine Ev.bind ht ?_
    refine Ev.bind (a := true) ?_ ?_
    · unfold laws_eqCert.f
      simp only [if_true]
      refine Ev.bind (eqByteS_same key (by omega)) ?_
      simp only [if_true, bne_self_eq_false, Bool.false_eq_true, if_false]
      exact Ev.now _
    · simp only [if_true]; exact Ev.now _
end Go.Proofs.Ytjckchadcpaijaa.Pure
