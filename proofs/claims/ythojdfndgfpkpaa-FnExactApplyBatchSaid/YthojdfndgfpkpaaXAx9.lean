-- Written by a program of this session (xp.py over the kit's printer, with functions proved by hand). Lean checks it.
import Derived.Test.YthojdfndgfpkpaaXAx0
import Derived.Test.YthojdfndgfpkpaaXAx1
import Derived.Test.YthojdfndgfpkpaaXAx7
namespace Go.Proofs.Ythojdfndgfpkpaa.XA
open Go.Proofs.Ythojdfndgfpkpaa.Open Go.Proofs.Ythojdfndgfpkpaa.OpenWin Go.Proofs.Ythojdfndgfpkpaa.OpenRow Go.Proofs.Ythojdfndgfpkpaa.OpenFlat Go.Proofs.Ythojdfndgfpkpaa.OpenOrd
open Go.RowKit Go.Proofs.YthojdfndgfpkpaaW.PrintWords Go.Proofs.YthojdfndgfpkpaaW.PrintLast Go.Proofs.YthojdfndgfpkpaaW.PrintMore
attribute [local go_sem] max2_int min2_int max_two min_two max_three min_three max_four min_four   -- for this text's walks alone
set_option linter.unusedVariables false
set_option linter.unusedSimpArgs false

/-! ### impl_Change_124: function 124 -/
theorem impl_Change_124.enters_fn {f : FuncId} {fn : Func} (hf : Try.prog.funcs[f]? = some fn) (hname : (fn.name == "runtime.NumGoroutine") = false) (hb : fn.body.isSome = true) : ∀ args w, (callFunc f args).run Try.prog w = .ok (.enter f args) w :=
  fun args w => enters_ hf hname hb args w
set_option maxHeartbeats 2000000 in
theorem impl_Change_124.calls (g : FuncId) (lb : Array Value) (p : S88 → Bool) (eg : ∀ args w, (callFunc g args).run Try.prog w = .ok (.enter g args) w) (A0 : Option Addr) (c0 : Nat) (l0 : List S88) (w : World) (hr0 : Kd.C k88 w A0 l0.length l0)
    (hp : ∀ (i : Nat) (W : World), i < l0.length → Below w.heap.size w W → Calls Try.prog g (#[.agg #[.string (rd_T88 l0 i).f0, .string (rd_T88 l0 i).f1, .bool (rd_T88 l0 i).f2]] ++ lb) W fun e w' => e = .returned (.bool (p (rd_T88 l0 i))) ∧ Below W.heap.size W w') :
    Calls Try.prog 124 #[.slice A0 l0.length c0, .func (.func g) #[] lb] w fun e w' => ∃ r : Int, e = .returned (.int .i64 r) ∧ decide (0 ≤ r) = l0.any p ∧ Below w.heap.size w w' := by
  have HP := Aside0.mk hp
  clear hp
  have HR := Aside0.mk hr0
  clear hr0
  have hlen : l0.length ≤ 9223372036854775807 := HR.out.2.1
  have hu := Try.underlying88
  go_enter Try.func124, Try.ntmps124
  go_wp2
  go_loopg [5, 8] l0.length (fun gg _ s8 wr => ∃ kk : Nat, kk ≤ l0.length ∧ l0.length - kk ≤ gg ∧ s8 = .int .i64 kk ∧ Aside0 (Below w.heap.size w wr) ∧ Aside0 (∀ j, j < kk → p (rd_T88 l0 j) = false))
  case atStart => exact ⟨0, Nat.zero_le _, by omega, rfl, ⟨Below.refl _ _⟩, ⟨fun j hj => absurd hj (Nat.not_lt_zero _)⟩⟩
  case round =>
    obtain ⟨kk, hkk, hg, rfl, HB, A⟩ := hrel
    by_cases hlt : kk < l0.length
    · have hltz : (kk : Int) < (l0.length : Int) := by omega
      have HRr := Aside0.mk (Kd.C_below HR.out HB.out)
      obtain ⟨ad, e1, hx0, hx1, hx2⟩ := at_T88 HRr.out (kk : Int) (by omega) (by omega)
      cases e1
      simp only [Int.toNat_natCast] at hx0 hx1 hx2
      have hcall := HP.out kk wr  hlt HB.out 
      skip
      have hmem : rd_T88 l0 (kk : Int) ∈ l0 := by
        rw [rd_T88, Int.toNat_natCast, List.getD_eq_getElem?_getD, List.getElem?_eq_getElem hlt]; exact List.getElem_mem hlt
      have HM := Aside0.mk hmem
      clear hmem
      cases hq : p (rd_T88 l0 (kk : Int)) with
      | true =>
        rw [hq] at hcall
        have HC := Aside0.mk hcall
        have HQ := Aside0.mk hq
        clear hcall hq
        generalize rd_T88 l0 (kk : Int) = xk at *
        go_wp2_with ((with_reducible refine (HC.out).mono ?_); rintro e w' ⟨rfl, hb⟩)
        go_ret
        refine ⟨_, rfl, ?_, below_step HB.out hb⟩
        rw [List.any_eq_true.2 ⟨xk, HM.out, HQ.out⟩]
        simp
      | false =>
        have HQ := Aside0.mk hq
        have HN : Aside0 (∀ j, j < kk + 1 → p (rd_T88 l0 (j : Nat)) = false) := ⟨fun j hj => by
          by_cases e : j = kk
          · rw [e]; exact HQ.out
          · exact A.out j (by omega)⟩
        rw [hq] at hcall
        have HC := Aside0.mk hcall
        clear hcall hq HQ
        generalize rd_T88 l0 (kk : Int) = xk at *
        go_wp2_with ((with_reducible refine (HC.out).mono ?_); rintro e w' ⟨rfl, hb⟩)
        go_roundg (l0.length - (kk + 1))
        case measure => omega
        case rel => exact ⟨kk + 1, by omega, by omega, by go_num, ⟨below_step HB.out hb⟩, HN⟩
    · have hltz : ¬ (kk : Int) < (l0.length : Int) := by omega
      have hkl : kk = l0.length := by omega
      have HK := Aside0.mk hkl
      clear hkl
      go_wp2
      go_ret
      refine ⟨_, rfl, ?_, HB.out⟩
      have : l0.any p = false := by
        rw [List.any_eq_false]
        intro x hx
        obtain ⟨j, hj, rfl⟩ := List.getElem_of_mem hx
        have := A.out j (by have := HK.out; omega)
        rw [rd_T88, Int.toNat_natCast, List.getD_eq_getElem?_getD, List.getElem?_eq_getElem hj] at this
        simpa using this
      rw [this]; rfl


/-! ### impl_Change_115: function 115 -/
set_option maxHeartbeats 2000000 in
theorem impl_Change_115.calls (g : FuncId) (lb : Array Value) (p : S88 → Bool) (eg : ∀ args w, (callFunc g args).run Try.prog w = .ok (.enter g args) w) (A0 : Option Addr) (c0 : Nat) (l0 : List S88) (w : World) (hr0 : Kd.C k88 w A0 l0.length l0)
    (hp : ∀ (i : Nat) (W : World), i < l0.length → Below w.heap.size w W → Calls Try.prog g (#[.agg #[.string (rd_T88 l0 i).f0, .string (rd_T88 l0 i).f1, .bool (rd_T88 l0 i).f2]] ++ lb) W fun e w' => e = .returned (.bool (p (rd_T88 l0 i))) ∧ Below W.heap.size W w') :
    Calls Try.prog 115 #[.slice A0 l0.length c0, .func (.func g) #[] lb] w fun e w' => e = .returned (.bool (l0.any p)) ∧ Below w.heap.size w w' := by
  have HC := Aside0.mk (impl_Change_124.calls g lb p eg A0 c0 l0 w hr0 hp)
  clear hp hr0
  go_enter Try.func115, Try.ntmps115
  go_wp2_with ((with_reducible refine (HC.out).mono ?_); rintro e w' ⟨r, rfl, hr, hb⟩; have HQ := Aside0.mk hr; clear hr)
  go_ret
  refine ⟨?_, hb⟩
  rw [← HQ.out]; rfl


/-! ### impl_Change_91: function 91 -/
set_option maxHeartbeats 2000000 in
theorem impl_Change_91.lit (g : FuncId) (lb : Array Value) (b : Bool) (eg : ∀ args w, (callFunc g args).run Try.prog w = .ok (.enter g args) w) (x0 : ByteArray) (x1 : ByteArray) (x2 : Bool) (a : Addr) (w : World) (ha : w.cell? a = some (.func (.func g) #[] lb))
    (hp : ∀ W, Below w.heap.size w W → Calls Try.prog g (#[.agg #[.string x0, .string x1, .bool x2]] ++ lb) W fun e w' => e = .returned (.bool b) ∧ Below W.heap.size W w') :
    Calls Try.prog 116 #[.agg #[.string x0, .string x1, .bool x2], .pointer (some a)] w fun e w' => e = .returned (.bool (!b)) ∧ Below w.heap.size w w' := by
  have hu := Try.underlying88
  have h1 : Below w.heap.size w (w.alloc (.cells #[.string x0, .string x1, .bool x2] 88)) := below_alloc (Below.refl _ _) _
  have HC := Aside0.mk (hp _ h1)
  have H1 := Aside0.mk h1
  have ha2 : (w.alloc (.cells #[.string x0, .string x1, .bool x2] 88)).cell? a = some (.func (.func g) #[] lb) := Lib.cell?_alloc_some _ ha
  clear hp h1 ha
  go_enter Try.func116, Try.ntmps116
  go_wp2_with ((with_reducible refine (HC.out).mono ?_); rintro e w' ⟨rfl, hb⟩)
  go_ret
  exact ⟨rfl, below_step H1.out hb⟩

set_option maxHeartbeats 2000000 in
theorem impl_Change_91.calls (g : FuncId) (lb : Array Value) (p : S88 → Bool) (eg : ∀ args w, (callFunc g args).run Try.prog w = .ok (.enter g args) w) (A0 : Option Addr) (c0 : Nat) (l0 : List S88) (w : World) (hr0 : Kd.C k88 w A0 l0.length l0)
    (hp : ∀ (i : Nat) (W : World), i < l0.length → Below w.heap.size w W → Calls Try.prog g (#[.agg #[.string (rd_T88 l0 i).f0, .string (rd_T88 l0 i).f1, .bool (rd_T88 l0 i).f2]] ++ lb) W fun e w' => e = .returned (.bool (p (rd_T88 l0 i))) ∧ Below W.heap.size W w') :
    Calls Try.prog 91 #[.slice A0 l0.length c0, .func (.func g) #[] lb] w fun e w' => e = .returned (.bool (l0.all p)) ∧ Below w.heap.size w w' := by
  have HP := Aside0.mk hp
  have HR := Aside0.mk hr0
  clear hp hr0
  have HE := Aside0.mk eg
  have h1 : Below w.heap.size w (w.alloc (.cells #[.func (.func g) #[] lb] 108)) := below_alloc (Below.refl _ _) _
  have h2 : (w.alloc (.cells #[.func (.func g) #[] lb] 108)).cell? ⟨w.heap.size, 0, none⟩ = some (.func (.func g) #[] lb) := by go_simp
  have h3 : w.heap.size < (w.alloc (.cells #[.func (.func g) #[] lb] 108)).heap.size := by simp
  have HC := Aside0.mk (impl_Change_115.calls 116 #[.pointer (some ⟨w.heap.size, 0, none⟩)] (fun x => !p x) (impl_Change_124.enters_fn Try.func116 rfl rfl) A0 c0 l0 (w.alloc (.cells #[.func (.func g) #[] lb] 108)) (Kd.C_below HR.out h1) (fun i W  hi hb  =>
    impl_Change_91.lit g lb (p (rd_T88 l0 i)) HE.out _ _ _ ⟨w.heap.size, 0, none⟩ W (by rw [hb.cell (p := ⟨w.heap.size, 0, none⟩) h3]; exact h2) (fun W2 hb2 => HP.out i W2  hi (below_step h1 (below_step hb hb2)) )))
  have H1 := Aside0.mk h1
  clear h1 h2 h3
  go_enter Try.func91, Try.ntmps91
  go_wp2_with ((with_reducible refine (HC.out).mono ?_); rintro e w' ⟨rfl, hb⟩)
  go_ret
  refine ⟨?_, below_step H1.out hb⟩
  rw [List.all_eq_not_any_not]; rfl


/-! ### impl_isChange: function 92 -/
def impl_isChange.f (a0_0 : ByteArray) (a0_1 : ByteArray) (a0_2 : Bool) : Option (Bool) := (impl_isKey.f a0_0).bind fun t173 => (if t173 = true then (if (a0_1.size : Int) ≤ 400 then (if a0_2 = true then (some (a0_1.toList == ([] : List UInt8))) else (some true)) else (some false)) else (some false))
set_option maxHeartbeats 8000000 in
set_option maxRecDepth 100000 in
theorem impl_isChange.calls (a0_0 : ByteArray) (a0_1 : ByteArray) (a0_2 : Bool) (r : Bool) (w : World) (h : impl_isChange.f a0_0 a0_1 a0_2 = some r) :
    Calls Try.prog 92 #[.agg #[.string a0_0, .string a0_1, .bool a0_2]] w fun e w' => e = .returned (.bool r) ∧ Below w.heap.size w w' := by
  have hu88 := Try.underlying88
  have HB := Aside0.mk (Below.refl w.heap.size w)
  have H : ((impl_isKey.f a0_0).bind fun t173 => (if t173 = true then (if (a0_1.size : Int) ≤ 400 then (if a0_2 = true then (some (a0_1.toList == ([] : List UInt8))) else (some true)) else (some false)) else (some false))) = some r := h
  clear h
  replace H := Option.bind_eq_some_iff.mp H
  obtain ⟨t173, A20, H⟩ := H
  replace H : (if t173 = true then (if (a0_1.size : Int) ≤ 400 then (if a0_2 = true then (some (a0_1.toList == ([] : List UInt8))) else (some true)) else (some false)) else (some false)) = some r := H
  have A2 := Aside0.mk A20
  clear A20
  by_cases c3 : t173 = true
  · subst c3
    have H1 : (if (a0_1.size : Int) ≤ 400 then (if a0_2 = true then (some (a0_1.toList == ([] : List UInt8))) else (some true)) else (some false)) = some r := by rw [if_pos rfl] at H; exact H
    clear H
    have H := H1
    clear H1
    by_cases c4 : (a0_1.size : Int) ≤ 400
    · rw [if_pos c4] at H
      have c4b0 : decide ((a0_1.size : Int) ≤ 400) = true := decide_eq_true c4
      have c4b1 : decide (a0_1.size ≤ 400) = true := decide_eq_true (by omega)
      clear c4
      by_cases c5 : a0_2 = true
      · subst c5
        have H1 : (some (a0_1.toList == ([] : List UInt8))) = some r := by rw [if_pos rfl] at H; exact H
        clear H
        have H := H1
        clear H1
        obtain rfl := Option.some.inj H
        go_enter Try.func92, Try.ntmps92
        go_wp2_with (first | ((with_reducible refine gate_dst (N := 1) rfl ?_); (try (refine gate_guard (by rfl) ?_; dsimp only)); refine box_event ?hg (N := 1) ?hd (cs := #[.string a0_0, .string a0_1, .bool true]) (t := 88) ?hr ?_; (case hd => rfl); (case hg => rfl); (case hr => first | (go_simp; done) | (go_simp; rfl)); intro gb172 hg w6 hbox hb; have n0_ := Aside0.mk (below_step (by repeat (first | (with_reducible first | exact HB.out | apply below_alloc | apply pw_below_drewN | apply below_drew1) | exact HB.out)) hb); have n1_ := Aside0.mk (hbox); have n2_ := Aside0.mk ((by rw [hg]; exact (below_size (by repeat (first | (with_reducible first | exact HB.out | apply below_alloc | apply pw_below_drewN | apply below_drew1) | exact HB.out))) : w.heap.size ≤ gb172)); have n3_ := Aside0.mk ((by rw [hg]; exact (below_size (by repeat (first | (with_reducible first | exact HB.out | apply below_alloc | apply pw_below_drewN | apply below_drew1) | exact HB.out))) : w.heap.size ≤ gb172)); clear HB; have HB := n0_; have BK172 := n1_; have GW172 := n2_; have GE172 := n3_; clear n0_ n1_ n2_ n3_; clear hb hbox hg; have hcz7_0 : w6.cell? ⟨gb172, 0, none⟩ = some (.string a0_0) := (blk_cell BK172.out 0).trans rfl; have hcz7_1 : w6.cell? ⟨gb172, 1, none⟩ = some (.string a0_1) := (blk_cell BK172.out 1).trans rfl; have hcz7_2 : w6.cell? ⟨gb172, 2, none⟩ = some (.bool true) := (blk_cell BK172.out 2).trans rfl; have hfz7_0 := blk_frozen BK172.out 0; have hfz7_1 := blk_frozen BK172.out 1; have hfz7_2 := blk_frozen BK172.out 2) | ((with_reducible refine gate_callee (f := 88) rfl ?_); refine goesL_ (some 5) rfl rfl Try.func88 (by kernel_rfl) rfl #[.string a0_0] rfl (by (try simp only [List.map_toArray, List.map_cons, List.map_nil]); first | done | rfl | (simp only [List.length_drop, List.length_take]; rfl)) ?_; (with_reducible refine (impl_isKey.calls a0_0 true _ A2.out).mono ?_); rintro e w' ⟨rfl, ⟨nd, rfl⟩⟩; refine ⟨_, rfl, ?_⟩))
        go_ret
        exact ⟨by first | rfl | (simp [errW_none, errW_some] <;> rfl) | (simp [*, errW_none, errW_some] <;> rfl), by repeat (first | (with_reducible first | exact HB.out | apply below_alloc | apply pw_below_drewN | apply below_drew1 | refine below_set ?_ GE172.out) | exact HB.out)⟩
      · replace c5 := Bool.eq_false_iff.mpr c5
        subst c5
        have H1 : (some true) = some r := by rw [if_neg (show ¬ (false = true) by decide)] at H; exact H
        clear H
        have H := H1
        clear H1
        obtain rfl := Option.some.inj H
        go_enter Try.func92, Try.ntmps92
        go_wp2_with (first | ((with_reducible refine gate_dst (N := 1) rfl ?_); (try (refine gate_guard (by rfl) ?_; dsimp only)); refine box_event ?hg (N := 1) ?hd (cs := #[.string a0_0, .string a0_1, .bool false]) (t := 88) ?hr ?_; (case hd => rfl); (case hg => rfl); (case hr => first | (go_simp; done) | (go_simp; rfl)); intro gb172 hg w8 hbox hb; have n0_ := Aside0.mk (below_step (by repeat (first | (with_reducible first | exact HB.out | apply below_alloc | apply pw_below_drewN | apply below_drew1) | exact HB.out)) hb); have n1_ := Aside0.mk (hbox); have n2_ := Aside0.mk ((by rw [hg]; exact (below_size (by repeat (first | (with_reducible first | exact HB.out | apply below_alloc | apply pw_below_drewN | apply below_drew1) | exact HB.out))) : w.heap.size ≤ gb172)); have n3_ := Aside0.mk ((by rw [hg]; exact (below_size (by repeat (first | (with_reducible first | exact HB.out | apply below_alloc | apply pw_below_drewN | apply below_drew1) | exact HB.out))) : w.heap.size ≤ gb172)); clear HB; have HB := n0_; have BK172 := n1_; have GW172 := n2_; have GE172 := n3_; clear n0_ n1_ n2_ n3_; clear hb hbox hg; have hcz9_0 : w8.cell? ⟨gb172, 0, none⟩ = some (.string a0_0) := (blk_cell BK172.out 0).trans rfl; have hcz9_1 : w8.cell? ⟨gb172, 1, none⟩ = some (.string a0_1) := (blk_cell BK172.out 1).trans rfl; have hcz9_2 : w8.cell? ⟨gb172, 2, none⟩ = some (.bool false) := (blk_cell BK172.out 2).trans rfl; have hfz9_0 := blk_frozen BK172.out 0; have hfz9_1 := blk_frozen BK172.out 1; have hfz9_2 := blk_frozen BK172.out 2) | ((with_reducible refine gate_callee (f := 88) rfl ?_); refine goesL_ (some 5) rfl rfl Try.func88 (by kernel_rfl) rfl #[.string a0_0] rfl (by (try simp only [List.map_toArray, List.map_cons, List.map_nil]); first | done | rfl | (simp only [List.length_drop, List.length_take]; rfl)) ?_; (with_reducible refine (impl_isKey.calls a0_0 true _ A2.out).mono ?_); rintro e w' ⟨rfl, ⟨nd, rfl⟩⟩; refine ⟨_, rfl, ?_⟩))
        go_ret
        exact ⟨by first | rfl | (simp [errW_none, errW_some] <;> rfl) | (simp [*, errW_none, errW_some] <;> rfl), by repeat (first | (with_reducible first | exact HB.out | apply below_alloc | apply pw_below_drewN | apply below_drew1 | refine below_set ?_ GE172.out) | exact HB.out)⟩
    · rw [if_neg c4] at H
      have c4b0 : decide ((a0_1.size : Int) ≤ 400) = false := decide_eq_false c4
      have c4b1 : decide (a0_1.size ≤ 400) = false := decide_eq_false (by omega)
      clear c4
      obtain rfl := Option.some.inj H
      go_enter Try.func92, Try.ntmps92
      go_wp2_with (first | ((with_reducible refine gate_dst (N := 1) rfl ?_); (try (refine gate_guard (by rfl) ?_; dsimp only)); refine box_event ?hg (N := 1) ?hd (cs := #[.string a0_0, .string a0_1, .bool a0_2]) (t := 88) ?hr ?_; (case hd => rfl); (case hg => rfl); (case hr => first | (go_simp; done) | (go_simp; rfl)); intro gb172 hg w10 hbox hb; have n0_ := Aside0.mk (below_step (by repeat (first | (with_reducible first | exact HB.out | apply below_alloc | apply pw_below_drewN | apply below_drew1) | exact HB.out)) hb); have n1_ := Aside0.mk (hbox); have n2_ := Aside0.mk ((by rw [hg]; exact (below_size (by repeat (first | (with_reducible first | exact HB.out | apply below_alloc | apply pw_below_drewN | apply below_drew1) | exact HB.out))) : w.heap.size ≤ gb172)); have n3_ := Aside0.mk ((by rw [hg]; exact (below_size (by repeat (first | (with_reducible first | exact HB.out | apply below_alloc | apply pw_below_drewN | apply below_drew1) | exact HB.out))) : w.heap.size ≤ gb172)); clear HB; have HB := n0_; have BK172 := n1_; have GW172 := n2_; have GE172 := n3_; clear n0_ n1_ n2_ n3_; clear hb hbox hg; have hcz11_0 : w10.cell? ⟨gb172, 0, none⟩ = some (.string a0_0) := (blk_cell BK172.out 0).trans rfl; have hcz11_1 : w10.cell? ⟨gb172, 1, none⟩ = some (.string a0_1) := (blk_cell BK172.out 1).trans rfl; have hcz11_2 : w10.cell? ⟨gb172, 2, none⟩ = some (.bool a0_2) := (blk_cell BK172.out 2).trans rfl; have hfz11_0 := blk_frozen BK172.out 0; have hfz11_1 := blk_frozen BK172.out 1; have hfz11_2 := blk_frozen BK172.out 2) | ((with_reducible refine gate_callee (f := 88) rfl ?_); refine goesL_ (some 5) rfl rfl Try.func88 (by kernel_rfl) rfl #[.string a0_0] rfl (by (try simp only [List.map_toArray, List.map_cons, List.map_nil]); first | done | rfl | (simp only [List.length_drop, List.length_take]; rfl)) ?_; (with_reducible refine (impl_isKey.calls a0_0 true _ A2.out).mono ?_); rintro e w' ⟨rfl, ⟨nd, rfl⟩⟩; refine ⟨_, rfl, ?_⟩))
      go_ret
      exact ⟨by first | rfl | (simp [errW_none, errW_some] <;> rfl) | (simp [*, errW_none, errW_some] <;> rfl), by repeat (first | (with_reducible first | exact HB.out | apply below_alloc | apply pw_below_drewN | apply below_drew1 | refine below_set ?_ GE172.out) | exact HB.out)⟩
  · replace c3 := Bool.eq_false_iff.mpr c3
    subst c3
    have H1 : (some false) = some r := by rw [if_neg (show ¬ (false = true) by decide)] at H; exact H
    clear H
    have H := H1
    clear H1
    obtain rfl := Option.some.inj H
    go_enter Try.func92, Try.ntmps92
    go_wp2_with (first | ((with_reducible refine gate_dst (N := 1) rfl ?_); (try (refine gate_guard (by rfl) ?_; dsimp only)); refine box_event ?hg (N := 1) ?hd (cs := #[.string a0_0, .string a0_1, .bool a0_2]) (t := 88) ?hr ?_; (case hd => rfl); (case hg => rfl); (case hr => first | (go_simp; done) | (go_simp; rfl)); intro gb172 hg w12 hbox hb; have n0_ := Aside0.mk (below_step (by repeat (first | (with_reducible first | exact HB.out | apply below_alloc | apply pw_below_drewN | apply below_drew1) | exact HB.out)) hb); have n1_ := Aside0.mk (hbox); have n2_ := Aside0.mk ((by rw [hg]; exact (below_size (by repeat (first | (with_reducible first | exact HB.out | apply below_alloc | apply pw_below_drewN | apply below_drew1) | exact HB.out))) : w.heap.size ≤ gb172)); have n3_ := Aside0.mk ((by rw [hg]; exact (below_size (by repeat (first | (with_reducible first | exact HB.out | apply below_alloc | apply pw_below_drewN | apply below_drew1) | exact HB.out))) : w.heap.size ≤ gb172)); clear HB; have HB := n0_; have BK172 := n1_; have GW172 := n2_; have GE172 := n3_; clear n0_ n1_ n2_ n3_; clear hb hbox hg; have hcz13_0 : w12.cell? ⟨gb172, 0, none⟩ = some (.string a0_0) := (blk_cell BK172.out 0).trans rfl; have hcz13_1 : w12.cell? ⟨gb172, 1, none⟩ = some (.string a0_1) := (blk_cell BK172.out 1).trans rfl; have hcz13_2 : w12.cell? ⟨gb172, 2, none⟩ = some (.bool a0_2) := (blk_cell BK172.out 2).trans rfl; have hfz13_0 := blk_frozen BK172.out 0; have hfz13_1 := blk_frozen BK172.out 1; have hfz13_2 := blk_frozen BK172.out 2) | ((with_reducible refine gate_callee (f := 88) rfl ?_); refine goesL_ (some 5) rfl rfl Try.func88 (by kernel_rfl) rfl #[.string a0_0] rfl (by (try simp only [List.map_toArray, List.map_cons, List.map_nil]); first | done | rfl | (simp only [List.length_drop, List.length_take]; rfl)) ?_; (with_reducible refine (impl_isKey.calls a0_0 false _ A2.out).mono ?_); rintro e w' ⟨rfl, ⟨nd, rfl⟩⟩; refine ⟨_, rfl, ?_⟩))
    go_ret
    exact ⟨by first | rfl | (simp [errW_none, errW_some] <;> rfl) | (simp [*, errW_none, errW_some] <;> rfl), by repeat (first | (with_reducible first | exact HB.out | apply below_alloc | apply pw_below_drewN | apply below_drew1 | refine below_set ?_ GE172.out) | exact HB.out)⟩

/-! ### impl_isBatch: function 64 -/
def impl_isBatch.ok (s : S88) : Bool := (impl_isChange.f s.f0 s.f1 s.f2).getD false
theorem impl_isBatch.lit_some (s : S88) : impl_isChange.f s.f0 s.f1 s.f2 = some (impl_isBatch.ok s) := by
  unfold impl_isBatch.ok impl_isChange.f impl_isKey.f impl_within.f
  repeat' (first | rfl | split | (simp only [Option.bind_some]))
def impl_isBatch.f (l0 : List (S88)) : Option (Bool) := some (decide ((l0.length : Int) ≤ 30) && l0.all impl_isBatch.ok)
set_option maxHeartbeats 4000000 in
set_option maxRecDepth 100000 in
theorem impl_isBatch.calls (A0 : Option Addr) (c0 : Nat) (l0 : List (S88)) (r : Bool) (w : World) (hr0 : Kd.C k88 w A0 l0.length l0) (hc0 : l0.length ≤ c0) (h : impl_isBatch.f l0 = some r) :
    Calls Try.prog 64 #[.slice A0 l0.length c0] w fun e w' => e = .returned (.bool r) ∧ Below w.heap.size w w' := by
  have hm0 : l0.length ≤ 9223372036854775807 := hr0.2.1
  have hr := Option.some.inj h
  clear h
  by_cases c1 : (l0.length : Int) ≤ 30
  · have d1 : decide ((l0.length : Int) ≤ 30) = true := decide_eq_true c1
    rw [decide_eq_true c1, Bool.true_and] at hr
    have HA := Aside0.mk (impl_Change_91.calls 92 #[] impl_isBatch.ok (impl_Change_124.enters_fn Try.func92 rfl rfl) A0 c0 l0 w hr0
          (fun i W2 hi hb => (impl_isChange.calls _ _ _ _ W2 (impl_isBatch.lit_some _))))
    have HQ := Aside0.mk hr
    clear c1 hr hr0 hc0
    go_enter Try.func64, Try.ntmps64
    go_wp2_with ((with_reducible refine (HA.out).mono ?_); rintro e w2 ⟨rfl, hb⟩)
    go_ret
    exact ⟨by rw [← HQ.out]; rfl, hb⟩
  · have d1 : decide ((l0.length : Int) ≤ 30) = false := decide_eq_false c1
    rw [decide_eq_false c1, Bool.false_and] at hr
    have HQ := Aside0.mk hr
    clear c1 hr hr0 hc0
    go_enter Try.func64, Try.ntmps64
    go_wp2
    go_ret
    exact ⟨by rw [← HQ.out]; rfl, Below.refl _ _⟩


/-! ### impl_Pair_54: function 54 -/
def impl_Pair_54.f (l0 : List (S74)) : Option (List (S74)) := if l0.length < 4398046511104 then some l0 else none
set_option maxHeartbeats 4000000 in
set_option maxRecDepth 100000 in
theorem impl_Pair_54.calls (A0 : Option Addr) (c0 : Nat) (l0 : List (S74)) (r : List (S74)) (w : World) (hr0 : Kd.C k74 w A0 l0.length l0) (hc0 : l0.length ≤ c0) (h : impl_Pair_54.f l0 = some r) :
    Calls Try.prog 54 #[.slice A0 l0.length c0] w fun e w' => ∃ v0_ : Value, e = .returned (v0_) ∧ Kd.R k74 74 w' w.heap.size (fun _ => True) v0_ r ∧ Below w.heap.size w w' := by
  unfold impl_Pair_54.f at h
  have hs : l0.length < 4398046511104 := Decidable.byContradiction fun hs => by rw [if_neg hs] at h; cases h
  rw [if_pos hs] at h
  obtain rfl := Option.some.inj h
  clear h
  have q22 : ∀ (W : World) (a : Option Addr) (n c n' c' : Nat), (binOp .eql 24 (.slice a n c) (.slice none n' c')).run Try.prog W = .ok (.bool a.isNone) W := fun W a n c n' c' => Lib.run_eql_slice_nil W _ _ a n c n' c' Try.underlying24
  have infoE : (Try.prog.info? 74).map (fun i => (i.zero, i.size, i.bytes)) = some (some (.agg #[.string ⟨#[]⟩, .string ⟨#[]⟩]), 2, 32) := by kernel_rfl
  have INFO := Aside0.mk infoE
  clear infoE
  have HR0 := Aside0.mk hr0
  have HB := Aside0.mk (Below.refl w.heap.size w)
  have LM := Aside0.mk hs
  cases A0 with
  | none =>
    have hz : l0 = [] := by
      have h2 := hr0.2.2
      cases l0 with
      | nil => rfl
      | cons x xs => obtain ⟨ad, e, _⟩ := h2 (by simp); cases e
    subst hz
    clear hr0 hc0 hs
    go_enter Try.func54, Try.ntmps54
    go_wp2
    go_ret
    exact ⟨_, rfl, Kd.R_nil _ _ _ _ _, HB.out⟩
  | some ad =>
    have Ny := Aside0.mk (show l0 = [] ++ l0 from rfl)
    clear hr0 hs
    go_enter Try.func54, Try.ntmps54
    go_wp2_with (first
      | ((with_reducible refine gate_dst (N := 5) rfl ?_); refine Kd.R_lit k74 _ 74 ?hg (N := 5) ?hd (xs := []) (inner := []) (ok := fun _ => True) (okp := fun _ => True) ?hr ?hp (fun _ hk => hk) trivial (Below.refl _ _) (Nat.le_refl _) (by simp) ?_; (case hd => rfl); (case hg => rfl); (case hr => first | (go_simp; done) | (go_simp; rfl)); (case hp => exact Reps.none _ _); intro v126 w5 ho6 hb hg_ hnew_; clear hg_ hnew_; have n0_ := Aside0.mk (Kd.R_lower ho6 (below_size HB.out)); have n1_ := Aside0.mk (below_step HB.out hb); clear HB; have HO127 := n0_; have HB := n1_; clear n0_ n1_; clear hb ho6)
      | ((with_reducible refine gate_builtin (b := .append) (xs := #[.tmp 5, .tmp 6]) rfl ?_); at_builtin; refine Kd.R_append_rows k74 (w0 := w) w.heap.size rfl (.tmp 5) (.tmp 6) 24 74 (.agg #[.string ⟨#[]⟩, .string ⟨#[]⟩]) 32 rfl Try.underlying24 INFO.out rfl (by decide) (by decide) v126 [] l0 _ _ _ (fun _ => True) (fun _ => False) rfl rfl ?aO ?aR (fun _ _ h => h) (fun _ h => h.elim) ?aF ?aB ?aS ?aL ?_; (case aR => exact (Kd.C_below HR0.out HB.out)); (case aB => exact HB.out); (case aF => exact (fun _ _ => trivial)); (case aO => exact HO127.out); (case aS => exact (below_size HB.out)); (case aL => have := LM.out; simp only [List.length_nil, Nat.zero_add]; omega); intro v129 w7 ho hb hg hat; rw [← Ny.out] at ho; have n0_ := Aside0.mk (hb); have n1_ := Aside0.mk (ho); clear HB; clear HO127; have HB := n0_; have HO130 := n1_; clear n0_ n1_; clear ho hb hg hat))
    go_ret
    exact ⟨_, rfl, Kd.R_mono HO130.out (fun _ hk => trivial), HB.out⟩


/-! ### impl_Pair_string: function 108 -/
set_option maxHeartbeats 4000000 in
set_option maxRecDepth 100000 in
/-- the place of a key: cmp's sign must not rise and fall again -/
theorem impl_Pair_string.calls (A : Option Addr) (c : Nat) (xs : List S74) (key : ByteArray) (w : World) (hC : Kd.C k74 w A xs.length xs) (hn : xs.length ≤ 100000)
    (hmono : ∀ a b, a ≤ b → b < xs.length → Lib.compareBytes (xs.getD b z74).f0.data.toList key.data.toList < 0 → Lib.compareBytes (xs.getD a z74).f0.data.toList key.data.toList < 0) :
    Calls Try.prog 108 #[.slice A xs.length c, .string key, .func (.func 109) #[] #[]] w fun e w' => ∃ r : Nat, e = .returned (.tuple #[.int .i64 (r : Int), .bool (decide (r < xs.length) && decide (Lib.compareBytes (xs.getD r z74).f0.data.toList key.data.toList = 0))]) ∧ r ≤ xs.length ∧ (∀ j, j < r → Lib.compareBytes (xs.getD j z74).f0.data.toList key.data.toList < 0) ∧ (∀ j, r ≤ j → j < xs.length → ¬ Lib.compareBytes (xs.getD j z74).f0.data.toList key.data.toList < 0) ∧ Below w.heap.size w w' := by
  have hu := Try.underlying74
  have HCALL := Aside0.mk (fun (x0 x1 : ByteArray) W => impl_apply_1.calls ⟨x0, x1⟩ key W)
  have HM := Aside0.mk hmono
  have HC := Aside0.mk hC
  have HB := Aside0.mk (Below.refl w.heap.size w)
  clear hmono hC
  go_enter Try.func108, Try.ntmps108
  go_wp2
  go_loopg [9, 10] xs.length (fun gg s9 s10 wr => ∃ i j : Nat, i ≤ j ∧ j ≤ xs.length ∧ j - i ≤ gg ∧ s9 = .int .i64 i ∧ s10 = .int .i64 j ∧ Aside0 (∀ q, q < i → Lib.compareBytes (xs.getD q z74).f0.data.toList key.data.toList < 0) ∧ Aside0 (∀ q, j ≤ q → q < xs.length → ¬ Lib.compareBytes (xs.getD q z74).f0.data.toList key.data.toList < 0) ∧ Aside0 (Below w.heap.size w wr))
  case atStart => exact ⟨0, xs.length, Nat.zero_le _, Nat.le_refl _, by omega, rfl, rfl, ⟨fun q hq => absurd hq (Nat.not_lt_zero _)⟩, ⟨fun q h1 h2 => absurd h2 (by omega)⟩, HB⟩
  case round =>
    obtain ⟨i, j, hij, hj, hg, rfl, rfl, HI, HJ, HB1⟩ := hrel
    by_cases hlt : i < j
    · have hltz : (i : Int) < (j : Int) := by omega
      obtain ⟨m, hm⟩ : ∃ m, m = (i + j) / 2 := ⟨_, rfl⟩
      have hmx : m < xs.length := by omega
      have hmi : ((i : Int) + (j : Int)) / 2 = (m : Int) := by omega
      have him : i ≤ m := by omega
      have hmj : m < j := by omega
      clear hm
      have hmz : (m : Int) < (xs.length : Int) := by omega
      have HC1 := Aside0.mk (Kd.C_below HC.out HB1.out)
      obtain ⟨ad, e1, hx0, hx1⟩ := at_T74 HC1.out (m : Int) (by omega) (by omega)
      cases e1
      have hrd : rd_T74 xs (m : Int) = xs.getD m z74 := by rw [rd_T74, Int.toNat_natCast]
      simp only [Int.toNat_natCast, hrd] at hx0 hx1
      obtain ⟨x, hx⟩ : ∃ x, x = xs.getD m z74 := ⟨_, rfl⟩
      rw [← hx] at hx0 hx1
      have hcall := HCALL.out x.f0 x.f1
      obtain ⟨cv, hcv⟩ : ∃ cv, cv = Lib.compareBytes x.f0.data.toList key.data.toList := ⟨_, rfl⟩
      rw [← hcv] at hcall
      have HK := Aside0.mk hcall
      have hcq : Lib.compareBytes (xs.getD m z74).f0.data.toList key.data.toList = cv := by rw [← hx, hcv]
      have HQ := Aside0.mk hcq
      obtain ⟨x0, x1⟩ := x
      clear hrd hcall hcv hcq hx
      by_cases hc : cv < 0
      · have HI2 := Aside0.mk (show ∀ q, q < m + 1 → Lib.compareBytes (xs.getD q z74).f0.data.toList key.data.toList < 0 from fun q hq => HM.out q m (by omega) hmx (by rw [HQ.out]; exact hc))
        have hw1 : IntKind.i64.wrap ((m : Int) + 1) = (m : Int) + 1 := by rw [IntKind.wrap_i64]; omega
        go_wp2_with ((with_reducible refine (HK.out _).mono ?_); rintro e w' ⟨rfl, hb⟩; have HB2 := Aside0.mk (below_step HB1.out hb); clear hb)
        go_roundg (j - (m + 1))
        case measure => omega
        case rel => exact ⟨m + 1, j, by omega, hj, Nat.le_refl _, by go_num, by go_num, HI2, HJ, HB2⟩
      · have HJ2 := Aside0.mk (show ∀ q, m ≤ q → q < xs.length → ¬ Lib.compareBytes (xs.getD q z74).f0.data.toList key.data.toList < 0 from fun q hq hq2 hcc => hc (by rw [← HQ.out]; exact HM.out m q hq hq2 hcc))
        go_wp2_with ((with_reducible refine (HK.out _).mono ?_); rintro e w' ⟨rfl, hb⟩; have HB2 := Aside0.mk (below_step HB1.out hb); clear hb)
        go_roundg (m - i)
        case measure => omega
        case rel => exact ⟨i, m, him, by omega, Nat.le_refl _, by go_num, by go_num, HI, HJ2, HB2⟩
    · have hltz : ¬ (i : Int) < (j : Int) := by omega
      obtain rfl : i = j := by omega
      by_cases hin : i < xs.length
      · have hinz : (i : Int) < (xs.length : Int) := by omega
        have HC1 := Aside0.mk (Kd.C_below HC.out HB1.out)
        obtain ⟨ad, e1, hx0, hx1⟩ := at_T74 HC1.out (i : Int) (by omega) (by omega)
        cases e1
        have hrd : rd_T74 xs (i : Int) = xs.getD i z74 := by rw [rd_T74, Int.toNat_natCast]
        simp only [Int.toNat_natCast, hrd] at hx0 hx1
        obtain ⟨x, hx⟩ : ∃ x, x = xs.getD i z74 := ⟨_, rfl⟩
        rw [← hx] at hx0 hx1
        have hcall := HCALL.out x.f0 x.f1
        obtain ⟨cv, hcv⟩ : ∃ cv, cv = Lib.compareBytes x.f0.data.toList key.data.toList := ⟨_, rfl⟩
        rw [← hcv] at hcall
        have HK := Aside0.mk hcall
        have hcq : Lib.compareBytes (xs.getD i z74).f0.data.toList key.data.toList = cv := by rw [← hx, hcv]
        have HQ := Aside0.mk hcq
        obtain ⟨x0, x1⟩ := x
        clear hrd hcall hcv hcq hx
        go_wp2_with ((with_reducible refine (HK.out _).mono ?_); rintro e w' ⟨rfl, hb⟩; have HB2 := Aside0.mk (below_step HB1.out hb); clear hb)
        go_ret2
        refine ⟨i, ?_, hj, HI.out, HJ.out, HB2.out⟩
        show Ending.returned (.tuple #[.int .i64 (i : Int), .bool (cv == 0)]) = _
        have hq := HQ.out
        rw [List.getD_eq_getElem?_getD] at hq
        have e2 : (decide (i < xs.length) && decide (Lib.compareBytes ((xs[i]?).getD z74).f0.data.toList key.data.toList = 0)) = (cv == 0) := by
          rw [hq, decide_eq_true hin, Bool.true_and]; rfl
        rw [← e2]
      · have hinz : ¬ (i : Int) < (xs.length : Int) := by omega
        go_wp2
        go_ret2
        refine ⟨i, ?_, hj, HI.out, HJ.out, HB1.out⟩
        rw [decide_eq_false hin, Bool.false_and]
        rfl


/-! ### impl_Pair_111: function 111 -/
theorem impl_Pair_111.flat : Ythojdfndgfpkpaa.OpenFlat.Flat k74 (fun x : S74 => [.string x.f0, .string x.f1]) :=
  ⟨fun _ _ _ _ _ => ⟨fun h => k74_openM h, fun h => by rw [h]; exact k74_mkM _ _ _ _⟩, fun _ => rfl, fun _ v hv => by simp at hv; rcases hv with rfl | rfl <;> rfl⟩
set_option maxHeartbeats 4000000 in
set_option maxRecDepth 100000 in
/-- one element taken out of an own row -/
theorem impl_Pair_111.calls (v : Value) (xs : List S74) (i : Nat) (w0 w : World) (hB : Below w0.heap.size w0 w) (ho : Kd.R k74 74 w w0.heap.size (fun _ => True) v xs) (hi : i < xs.length) :
    Calls Try.prog 111 #[v, .int .i64 (i : Int), .int .i64 ((i : Int) + 1)] w fun e w' => ∃ v', e = .returned v' ∧ Kd.R k74 74 w' w0.heap.size (fun _ => True) v' (xs.eraseIdx i) ∧ Below w0.heap.size w0 w' ∧ w.grownBy w' v.ownBlock := by
  have hus := Try.underlying24
  obtain ⟨g, c, rfl, hg1, hg2, _⟩ := Kd.R_form ho (by omega)
  have hlc : xs.length ≤ c := (Kd.R_reads' ho).2.1
  have hlen : xs.length ≤ 9223372036854775807 := (Kd.R_reads' ho).2.2.2.1
  have hc3 := fun W => OpenFlat.cut_lhm (P := Try.prog) 24 74 rfl rfl (sz := 2) rfl g xs.length c W .i64 .i64 .i64 i (i + 1) xs.length (i : Int) ((i : Int) + 1) (xs.length : Int) rfl (by omega) rfl (by omega) (by omega) hlc
  have hne : ((i : Int) == (i : Int) + 1) = false := by simp; omega
  have hne2 : ¬ ((i : Int) = (i : Int) + 1) := by omega
  have hcA := fun W => OpenFlat.cut_h (P := Try.prog) 24 74 rfl rfl (sz := 2) rfl g xs.length c W .i64 i (i : Int) rfl (by omega)
  have hcB := fun W => OpenFlat.cut_l (P := Try.prog) 24 74 rfl rfl (sz := 2) rfl g xs.length c W .i64 (i + 1) ((i : Int) + 1) (by omega) (by omega)
  obtain ⟨A, hA⟩ : ∃ A, OpenFlat.pl g c (i + 1) 2 = A := ⟨_, rfl⟩
  rw [hA] at hcB
  have HA := Aside0.mk hA
  obtain ⟨A3, hA3⟩ : ∃ A, OpenFlat.pl g xs.length i 2 = A := ⟨_, rfl⟩
  rw [hA3] at hc3
  have HO := Aside0.mk ho
  have HB := Aside0.mk hB
  have HG := Aside0.mk hg1
  clear ho hB hA hA3 hg1 hg2
  go_enter Try.func111, Try.ntmps111
  go_wp2
  refine wp_region_still_tail 6 (by kernel_rfl) (by kernel_rfl) ?_
  simp only [List.take_succ_cons, List.take_zero, List.drop_succ_cons, List.drop_zero]
  still_step
  still_step
  still_step
  still_step
  still_step
  still_step
  refine wpStill_nil ?_
  obtain ⟨W1, hW1⟩ : ∃ W1, W1 = w.drew := ⟨_, rfl⟩
  have HO1 := Aside0.mk (show Kd.R k74 74 W1 w0.heap.size (fun _ => True) (.slice (some ⟨g, 0, none⟩) xs.length c) xs by rw [hW1]; exact Kd.R_drew HO.out)
  have HB1 := Aside0.mk (show Below w0.heap.size w0 W1 by rw [hW1]; exact below_drew1 HB.out)
  rw [show ({ heap := w.heap, tape := w.tape, drawn := w.drawn + 1, os := w.os, output := w.output } : World) = w.drew from rfl, ← hW1]
  have HD := Aside0.mk (show w.grownBy W1 (some g) by rw [hW1]; exact ⟨rfl, rfl, rfl, Nat.le_refl _, fun _ _ _ => rfl⟩)
  clear hW1
  refine Kd.R_delete k74 (w0 := w0) w0.heap.size rfl (.tmp 22) (.tmp 25) 24 74 rfl Try.underlying24 rfl (g := g) (n := xs.length) (c := c) (k := i) (c2 := c - (i + 1)) (A := A) rfl rfl ?hA rfl HO1.out hi HB1.out HB1.out.size ?_
  case hA => rw [← HA.out]; unfold OpenFlat.pl; rw [Option.map_some, add_plain]; rfl
  intro w1 ho hb hg
  obtain ⟨n1, hn1⟩ : ∃ n1, xs.length - 1 = n1 := ⟨_, rfl⟩
  rw [hn1] at ho ⊢
  have hx1 : xs.length = n1 + 1 := by omega
  have hcC := fun W => OpenFlat.cut_lh (P := Try.prog) 24 74 rfl rfl (sz := 2) rfl g n1 c W .i64 .i64 n1 xs.length (n1 : Int) (xs.length : Int) rfl rfl (by omega) hlc
  rw [OpenFlat.pl_ne (by omega), show xs.length - n1 = 1 by omega] at hcC
  have hcl : (Builtin.clear_ #[24] 0 #[.slice (some ⟨g, n1 * 2, none⟩) 1 (c - n1)]).run Try.prog w1 = .ok (.tuple #[]) (w1.setCells g (n1 * 2) (OpenRow.zeros [.string ⟨#[]⟩, .string ⟨#[]⟩] 1)) := by
    obtain ⟨_, _, _, _, _, cur, hcur, hcs, _⟩ := OpenFlat.R_view impl_Pair_111.flat ho
    rw [show k74.sz = 2 from rfl] at hcs
    refine OpenRow.run_clear (P := Try.prog) w1 24 74 0 (.agg #[.string ⟨#[]⟩, .string ⟨#[]⟩]) [.string ⟨#[]⟩, .string ⟨#[]⟩] rfl (fun _ => rfl) rfl (by decide) (by intro u hu; simp at hu; subst hu; rfl) g (n1 * 2) 1 (c - n1) (by omega) ?_ ?_
    · intro jj hjj
      rw [show [Value.string ⟨#[]⟩, Value.string ⟨#[]⟩].length = 2 from rfl] at hjj
      simp [World.cell?, hcur, hcs]
      omega
    · intro jj hjj
      exact blk_frozen hcur _
  have HR := Aside0.mk (OpenFlat.R_beyond impl_Pair_111.flat ho (n1 * 2) (OpenRow.zeros [.string ⟨#[]⟩, .string ⟨#[]⟩] 1) (Nat.le_refl _) (by rw [show k74.sz = 2 from rfl, OpenRow.zeros_length, show [Value.string ⟨#[]⟩, Value.string ⟨#[]⟩].length = 2 from rfl]; omega))
  have HB2 := Aside0.mk hb
  have HD2 := Aside0.mk (World.grownBy.trans HD.out (World.grownBy.trans hg HR.out.2))
  clear ho hb hg hn1 hx1
  go_wp2
  go_ret
  exact ⟨_, rfl, HR.out.1, HB2.out.grown HR.out.2 HB2.out.size (fun k hk => by injection hk with hk; rw [← hk]; exact HG.out), HD2.out⟩


-- NOT PRINTED: function 121 (impl_Pair_121)

/-! ### impl_Pair_130: function 130 -/
/- not needed -/


-- NOT PRINTED: function 128 (impl_Pair_128)

-- NOT PRINTED: function 122 (impl_Pair_122)

/-! ### impl_Pair_112: function 112 -/
set_option maxHeartbeats 4000000 in
set_option maxRecDepth 100000 in
/-- at the end -/
theorem impl_Pair_112.end_ (v : Value) (xs : List S74) (x : S74) (vb : Nat) (w0 w : World) (hB : Below w0.heap.size w0 w) (ho : Kd.R k74 74 w w0.heap.size (fun k => k ≠ vb) v xs) (hn : xs.length ≤ 100000)
    (hx : w.heap[vb]? = some (.cells #[.string x.f0, .string x.f1] 74 (0, 0))) :
    Calls Try.prog 112 #[v, .int .i64 (xs.length : Int), .slice (some ⟨vb, 0, none⟩) 1 1] w fun e w' => ∃ v', e = .returned v' ∧ Kd.R k74 74 w' w0.heap.size (fun _ => True) v' (xs ++ [x]) ∧ Below w0.heap.size w0 w' := by
  have hus := Try.underlying24
  have hC := OpenFlat.C_box (e := 74) impl_Pair_111.flat x hx
  have HC := Aside0.mk hC
  have HO := Aside0.mk (Kd.R_mono (ok' := fun _ => True) ho (fun _ _ => trivial))
  have HB := Aside0.mk hB
  have hr1 : ¬ ((1 : Int) == 0) = true := by decide
  rcases OpenFlat.R_cases (enc := fun x : S74 => [.string x.f0, .string x.f1]) ho with ⟨rfl, rfl⟩ | ⟨g, c, rfl⟩
  · clear hC ho hB hx
    go_enter Try.func112, Try.ntmps112
    go_wp2_with ((with_reducible refine gate_builtin (b := .append) (xs := #[.tmp 23, .tmp 24]) rfl ?_); at_builtin; refine Kd.R_append_rows k74 (w0 := w0) w0.heap.size rfl (.tmp 23) (.tmp 24) 24 74 (.agg #[(.string ⟨#[]⟩), (.string ⟨#[]⟩)]) 32 rfl Try.underlying24 info74 rfl (by decide) (by decide) (.slice none 0 0) [] [x] (some ⟨vb, 0, none⟩) 1 1 (fun _ => True) (fun _ => False) rfl rfl HO.out HC.out (fun y cs h => by rw [k74_open h]; exact k74_mkM _ _ _ _) (fun _ h => h.elim) (fun _ _ => trivial) HB.out HB.out.size (by simp) ?_; intro v1 w1 h1 h2 h3 h4; have HO1 := Aside0.mk h1; have HB1 := Aside0.mk h2; clear h1 h2 h3 h4)
    go_ret
    exact ⟨_, rfl, HO1.out, HB1.out⟩
  · have hlc : xs.length ≤ c := (Kd.R_reads' ho).2.1
    have hc0 := fun W => OpenFlat.cut_l (P := Try.prog) 24 74 rfl rfl (sz := 2) rfl g xs.length c W .i64 xs.length (xs.length : Int) rfl (Nat.le_refl _)
    obtain ⟨A, hA⟩ : ∃ A, OpenFlat.pl g c xs.length 2 = A := ⟨_, rfl⟩
    rw [hA] at hc0
    clear hC ho hB hx hA
    go_enter Try.func112, Try.ntmps112
    go_wp2_with ((with_reducible refine gate_builtin (b := .append) (xs := #[.tmp 23, .tmp 24]) rfl ?_); at_builtin; refine Kd.R_append_rows k74 (w0 := w0) w0.heap.size rfl (.tmp 23) (.tmp 24) 24 74 (.agg #[(.string ⟨#[]⟩), (.string ⟨#[]⟩)]) 32 rfl Try.underlying24 info74 rfl (by decide) (by decide) (.slice (some ⟨g, 0, none⟩) xs.length c) xs [x] (some ⟨vb, 0, none⟩) 1 1 (fun _ => True) (fun _ => False) rfl rfl HO.out HC.out (fun y cs h => by rw [k74_open h]; exact k74_mkM _ _ _ _) (fun _ h => h.elim) (fun _ _ => trivial) HB.out HB.out.size (by omega) ?_; intro v1 w1 h1 h2 h3 h4; have HO1 := Aside0.mk h1; have HB1 := Aside0.mk h2; clear h1 h2 h3 h4)
    go_ret
    exact ⟨_, rfl, HO1.out, HB1.out⟩
set_option maxHeartbeats 4000000 in
set_option maxRecDepth 100000 in
/-- in place -/
theorem impl_Pair_112.shift (g c : Nat) (xs : List S74) (x : S74) (i vb : Nat) (w0 w : World) (hB : Below w0.heap.size w0 w) (ho : Kd.R k74 74 w w0.heap.size (fun k => k ≠ vb) (.slice (some ⟨g, 0, none⟩) xs.length c) xs) (hi : i < xs.length) (hn : xs.length ≤ 100000) (hroom : xs.length + 1 ≤ c)
    (hx : w.heap[vb]? = some (.cells #[.string x.f0, .string x.f1] 74 (0, 0))) :
    Calls Try.prog 112 #[.slice (some ⟨g, 0, none⟩) xs.length c, .int .i64 (i : Int), .slice (some ⟨vb, 0, none⟩) 1 1] w fun e w' => ∃ v', e = .returned v' ∧ Kd.R k74 74 w' w0.heap.size (fun _ => True) v' (xs.take i ++ x :: xs.drop i) ∧ Below w0.heap.size w0 w' := by
  have hus := Try.underlying24
  obtain ⟨_, hlc, hcm, hbg, hgv, cur, hcur, hcs, hct⟩ := OpenFlat.R_view impl_Pair_111.flat ho
  rw [show k74.sz = 2 from rfl] at hcs hct
  have hc63 : c ≤ 9223372036854775807 := hcm
  have hcl : cur.toList.length = c * 2 := by simpa using hcs
  have hr1 : ¬ ((1 : Int) == 0) = true := by decide
  have hne : ((i : Int) == (xs.length : Int)) = false := by simp; omega
  have hb0 : ¬ ((xs.length : Int) + 1 > (c : Int)) := by omega
  have hb1 : ¬ ((c : Int) < (xs.length : Int) + 1) := by omega
  have hc0 := fun W => OpenFlat.cut_l (P := Try.prog) 24 74 rfl rfl (sz := 2) rfl g xs.length c W .i64 i (i : Int) rfl (by omega)
  have hc1 := fun W => OpenFlat.cut_h (P := Try.prog) 24 74 rfl rfl (sz := 2) rfl g xs.length c W .i64 (xs.length + 1) ((xs.length : Int) + 1) (by omega) hroom
  have hc2 := fun W => OpenFlat.cut_l (P := Try.prog) 24 74 rfl rfl (sz := 2) rfl g (xs.length + 1) c W .i64 (i + 1) ((i : Int) + 1) (by omega) (by omega)
  have hc3 := fun W => OpenFlat.cut_l (P := Try.prog) 24 74 rfl rfl (sz := 2) rfl g (xs.length + 1) c W .i64 i (i : Int) rfl (by omega)
  rw [OpenFlat.pl_ne (by omega)] at hc0 hc2 hc3
  rw [Nat.add_sub_add_right] at hc2
  have hov : ∀ W : World, W.heap[vb]? = some (.cells #[.string x.f0, .string x.f1] 74 (0, 0)) → W.heap[g]? = some (.cells cur 74 (0, 0)) → ∀ lb cb, (callFunc 121 #[.slice (some ⟨vb, 0, none⟩) 1 1, .slice (some ⟨g, (i + 1) * 2, none⟩) lb cb]).run Try.prog W = .ok (.value (.bool false)) W := fun W hvW hgW lb cb => by
    rw [run_callFunc_extern Try.func121 (by kernel_rfl) (by kernel_rfl) (by kernel_rfl) (e := Extern.SlicesOverlaps.overlaps #[24, 24] #[4]) (by kernel_rfl),
      Lib.run_overlaps_apart W 24 4 74 Try.underlying24 2 (fun _ => rfl) ⟨vb, 0, none⟩ ⟨g, (i + 1) * 2, none⟩ 1 1 lb cb (fun h => hgv h.symm) 74 74 2 (c * 2) (by simp [World.shape?, hvW]) (by simp [World.shape?, hgW, hcs]) (by omega) (blk_frozen hvW _) (blk_frozen hvW _)]
    rfl
  have hov0 := hov w hx hcur
  obtain ⟨W1, hW1⟩ : ∃ W1, W1 = w.drew := ⟨_, rfl⟩
  have hx1 : W1.heap[vb]? = some (.cells #[.string x.f0, .string x.f1] 74 (0, 0)) := by rw [hW1]; exact hx
  have hcur1 : W1.heap[g]? = some (.cells cur 74 (0, 0)) := by rw [hW1]; exact hcur
  obtain ⟨zs, hzs⟩ : ∃ zs, zs = (xs.drop i).flatMap (fun x : S74 => [Value.string x.f0, Value.string x.f1]) := ⟨_, rfl⟩
  have hzl : zs.length = (xs.length - i) * 2 := by rw [hzs, OpenFlat.cells_length impl_Pair_111.flat, List.length_drop]; rfl
  have hzd : zs = (cur.toList.take (xs.length * 2)).drop (i * 2) := by rw [hzs, hct]; exact (OpenFlat.cells_drop impl_Pair_111.flat i xs (by omega)).symm
  have hz1 : ∀ v ∈ zs, v.oneCell' = true := by rw [hzs]; exact OpenFlat.cells_one impl_Pair_111.flat _
  have hcpA : (Builtin.copy_ #[24, 24] 3 #[.slice (some ⟨g, (i + 1) * 2, none⟩) (xs.length - i) (c - (i + 1)), .slice (some ⟨g, i * 2, none⟩) (xs.length + 1 - i) (c - i)]).run Try.prog W1 = .ok (goInt (xs.length - i : Nat)) (W1.setCells g ((i + 1) * 2) zs) :=
    OpenFlat.run_copy_sized W1 _ _ _ 74 2 g ((i + 1) * 2) _ _ ⟨g, i * 2, none⟩ _ _ zs Try.underlying24 rfl (by decide) (xs.length - i) (by simp only [Nat.min_def]; split <;> omega) hzl
      (fun j v hj => by
        rw [add_at, cell_of_row W1 g _ cur 74 (0, 0) hcur1, ← Array.getElem?_toList, ← hj, hzd, List.getElem?_drop, List.getElem?_take, if_pos (by have := (List.getElem?_eq_some_iff.1 hj).1; omega)])
      (fun j hj => by rw [cell_of_row W1 g _ cur 74 (0, 0) hcur1]; simp; omega) (fun j hj => blk_frozen hcur1 _) hz1
  obtain ⟨W2, hW2⟩ : ∃ W2, W2 = W1.setCells g ((i + 1) * 2) zs := ⟨_, rfl⟩
  rw [← hW2] at hcpA
  obtain ⟨cur2, hcur2, hs2, _⟩ := setCells_row zs ((i + 1) * 2) W1 cur hcur1 (by omega)
  rw [← hW2] at hcur2
  have hx2 : W2.heap[vb]? = some (.cells #[.string x.f0, .string x.f1] 74 (0, 0)) := by rw [hW2, setCells_far _ _ vb (fun h => hgv h.symm)]; exact hx1
  have hcpB : (Builtin.copy_ #[24, 24] 3 #[.slice (some ⟨g, i * 2, none⟩) (xs.length + 1 - i) (c - i), .slice (some ⟨vb, 0, none⟩) 1 1]).run Try.prog W2 = .ok (goInt (1 : Nat)) (W2.setCells g (i * 2) [.string x.f0, .string x.f1]) :=
    OpenFlat.run_copy_sized W2 _ _ _ 74 2 g (i * 2) _ _ ⟨vb, 0, none⟩ _ _ [.string x.f0, .string x.f1] Try.underlying24 rfl (by decide) 1 (by simp only [Nat.min_def]; split <;> omega) rfl
      (fun j v hj => by rw [add_plain, cell_of_row W2 vb _ _ 74 (0, 0) hx2, ← Array.getElem?_toList]; exact hj)
      (fun j hj => by rw [cell_of_row W2 g _ cur2 74 (0, 0) hcur2]; simp at hj ⊢; omega) (fun j hj => blk_frozen hcur2 _) (by intro v hv; simp at hv; rcases hv with rfl | rfl <;> rfl)
  obtain ⟨W3, hW3⟩ : ∃ W3, W3 = W2.setCells g (i * 2) [.string x.f0, .string x.f1] := ⟨_, rfl⟩
  rw [← hW3] at hcpB
  have hfin := OpenFlat.R_lay (W := W1) (base := w0.heap.size) (ok := fun k => k ≠ vb) impl_Pair_111.flat x (xs.take i) (xs.drop i) (i := i) (n := xs.length + 1) (c := c) (by simp; omega) (by simp; omega) hroom hcm hbg hgv hcur1 hcs (by
    rw [show k74.sz = 2 from rfl, ← OpenFlat.cells_take impl_Pair_111.flat i xs (by omega), ← hct, List.take_take]; congr 1; show i * 2 = min (i * 2) (xs.length * 2); omega)
  rw [show k74.sz = 2 from rfl, ← hzs, ← hW2, ← hW3] at hfin
  have HF := Aside0.mk hfin
  have HB := Aside0.mk (show Below w0.heap.size w0 W1 by rw [hW1]; exact below_drew1 hB)
  have HG := Aside0.mk hbg
  have HW1 := Aside0.mk hW1
  have HA := Aside0.mk hcpA
  have HBc := Aside0.mk hcpB
  clear ho hx hcur hcs hct hcl hov hx1 hcur1 hzs hzl hzd hz1 hW2 hcur2 hs2 hx2 hW3 hfin hB hbg hW1 hcpA hcpB
  go_enter Try.func112, Try.ntmps112
  go_wp2_with (simp only [hov0])
  have hwr : IntKind.i64.wrap ((i : Int) + 1) = (i : Int) + 1 := by rw [IntKind.wrap_i64]; omega
  refine wp_region_still_tail 8 (by kernel_rfl) (by kernel_rfl) ?_
  simp only [List.take_succ_cons, List.take_zero, List.drop_succ_cons, List.drop_zero]
  still_step
  still_step
  still_step
  refine wpStill_step (fun K hK => ?_)
  go_simp
  refine hK _ ?_
  clear hK K
  still_step
  still_step
  still_step
  still_step
  refine wpStill_nil ?_
  rw [show ({ heap := w.heap, tape := w.tape, drawn := w.drawn + 1, os := w.os, output := w.output } : World) = w.drew from rfl, ← HW1.out]
  refine OpenFlat.wpList_copy_run _ rfl (.tmp 73) (.tmp 76) 24 24 rfl _ _ rfl rfl HA.out ?_
  have hB9 := HBc.out
  go_wp2
  go_ret
  exact ⟨_, rfl, Kd.R_mono HF.out.1 (fun _ _ => trivial), HB.out.grown HF.out.2 HB.out.size (fun k hk => by injection hk with hk; rw [← hk]; exact HG.out)⟩
set_option maxHeartbeats 4000000 in
set_option maxRecDepth 100000 in
/-- anew -/
theorem impl_Pair_112.grow (g c : Nat) (xs : List S74) (x : S74) (i vb : Nat) (w0 w : World) (hB : Below w0.heap.size w0 w) (ho : Kd.R k74 74 w w0.heap.size (fun k => k ≠ vb) (.slice (some ⟨g, 0, none⟩) xs.length c) xs) (hi : i < xs.length) (hn : xs.length ≤ 100000) (hroom : c < xs.length + 1)
    (hx : w.heap[vb]? = some (.cells #[.string x.f0, .string x.f1] 74 (0, 0))) :
    Calls Try.prog 112 #[.slice (some ⟨g, 0, none⟩) xs.length c, .int .i64 (i : Int), .slice (some ⟨vb, 0, none⟩) 1 1] w fun e w' => ∃ v', e = .returned v' ∧ Kd.R k74 74 w' w0.heap.size (fun _ => True) v' (xs.take i ++ x :: xs.drop i) ∧ Below w0.heap.size w0 w' := by
  have hus := Try.underlying24
  obtain ⟨_, hlc, hcm, hbg, hgv, cur, hcur, hcs, hct⟩ := OpenFlat.R_view impl_Pair_111.flat ho
  rw [show k74.sz = 2 from rfl] at hcs hct
  have hc63 : c ≤ 9223372036854775807 := hcm
  have hcl : cur.toList.length = c * 2 := by simpa using hcs
  have hr1 : ¬ ((1 : Int) == 0) = true := by decide
  have hne : ((i : Int) == (xs.length : Int)) = false := by simp; omega
  have hb0 : ((xs.length : Int) + 1 > (c : Int)) := by omega
  have hb1 : ((c : Int) < (xs.length : Int) + 1) := by omega
  have hgw : g < w.heap.size := blk_lt hcur
  have hvw : vb < w.heap.size := blk_lt hx
  obtain ⟨i0, hi0, hii⟩ := Option.map_eq_some_iff.1 info74
  simp only [Prod.mk.injEq] at hii
  obtain ⟨hz0, hzs0, hzb⟩ := hii
  obtain ⟨G, hG⟩ : ∃ G, G = grownCap w (xs.length + 1) c 74 := ⟨_, rfl⟩
  have hGn : xs.length + 1 ≤ G := by rw [hG]; exact grownCap_ge w _ _ _
  have hGm : G ≤ maxLen := by rw [hG]; exact grownCap_le_maxLen w _ _ _ (by unfold maxLen; omega)
  have hG63 : G ≤ 9223372036854775807 := hGm
  obtain ⟨ROW, hROW⟩ : ∃ ROW : Array Value, ROW = (cur.toList.take (i * 2)).toArray ++ Builtin.zeroCells (Value.agg #[(.string ⟨#[]⟩), (.string ⟨#[]⟩)]).cells (xs.length + 1 - i) ++ Builtin.zeroCells (Value.agg #[(.string ⟨#[]⟩), (.string ⟨#[]⟩)]).cells (G - (xs.length + 1)) := ⟨_, rfl⟩
  obtain ⟨W1, hW1⟩ : ∃ W1, W1 = w.drew.alloc (.cells ROW 74) := ⟨_, rfl⟩
  have hrz : (Builtin.append_ #[24, 3] 24 #[.slice (some ⟨g, 0, none⟩) i c, .int .i64 ((xs.length : Int) + 1 - (i : Int))]).run Try.prog w = .ok (.slice (some ⟨w.heap.size, 0, none⟩) (xs.length + 1) G) W1 := by
    have hold : (Builtin.firstCells i0.size i (.slice (some ⟨g, 0, none⟩) i c)).run Try.prog w.drew = .ok (cur.toList.take (i * 2)).toArray w.drew := by
      rw [hzs0]
      exact run_firstCells_some w.drew 2 i ⟨g, 0, none⟩ i c (cur.toList.take (i * 2)) (by rw [List.length_take]; omega) (fun j v hj => by
        rw [add_plain, cell_of_row w.drew g _ cur 74 (0, 0) hcur, ← Array.getElem?_toList]
        rw [List.getElem?_take] at hj
        split at hj
        · exact hj
        · cases hj)
    have h := Lib.run_append_grow_zeros w 24 3 24 74 i0 _ .i64 .i64 Try.underlying24 Try.underlying3 hi0 hz0 (some ⟨g, 0, none⟩) i c _ hold (xs.length + 1 - i) (by omega) (by omega) (by omega) (by omega) (by rw [hzb]; omega) (by rw [hzb]; exact growslice_fits (by omega) (by omega))
    rw [show i + (xs.length + 1 - i) = xs.length + 1 by omega, show ((xs.length + 1 - i : Nat) : Int) = (xs.length : Int) + 1 - (i : Int) by omega, ← hG, ← hROW, ← hW1] at h
    exact h
  have hRs : ROW.size = G * 2 := by
    rw [hROW]
    simp [Builtin.zeroCells, Value.cells]
    omega
  have hRt : ROW.toList.take (i * 2) = (xs.take i).flatMap (fun x : S74 => [Value.string x.f0, Value.string x.f1]) := by
    rw [hROW, Array.toList_append, Array.toList_append, List.append_assoc, List.toList_toArray, List.take_append_of_le_length (by rw [List.length_take]; omega), List.take_take, Nat.min_self]
    rw [show i * 2 = min (i * 2) (xs.length * 2) by omega, ← List.take_take, hct]
    exact OpenFlat.cells_take impl_Pair_111.flat i xs (by omega)
  have hrow1 : W1.heap[w.heap.size]? = some (.cells ROW 74 (0, 0)) := by
    rw [hW1]
    show (w.heap.push _)[w.heap.size]? = _
    simp
  have hkeep : ∀ k, k < w.heap.size → W1.heap[k]? = w.heap[k]? := fun k hk => by
    rw [hW1]
    show (w.heap.push _)[k]? = _
    rw [Array.getElem?_push_lt hk, Array.getElem?_eq_getElem hk]
  have hx1 := (hkeep vb hvw).trans hx
  have hcur1 := (hkeep g hgw).trans hcur
  have hc0 := fun W => OpenFlat.cut_l (P := Try.prog) 24 74 rfl rfl (sz := 2) rfl g xs.length c W .i64 i (i : Int) rfl (by omega)
  have hc1 := fun W => OpenFlat.cut_h (P := Try.prog) 24 74 rfl rfl (sz := 2) rfl g xs.length c W .i64 i (i : Int) rfl (by omega)
  have hc2 := fun W => OpenFlat.cut_l (P := Try.prog) 24 74 rfl rfl (sz := 2) rfl w.heap.size (xs.length + 1) G W .i64 (i + 1) ((i : Int) + 1) (by omega) (by omega)
  have hc3 := fun W => OpenFlat.cut_l (P := Try.prog) 24 74 rfl rfl (sz := 2) rfl w.heap.size (xs.length + 1) G W .i64 i (i : Int) rfl (by omega)
  rw [OpenFlat.pl_ne (by omega)] at hc0 hc2 hc3
  rw [Nat.add_sub_add_right] at hc2
  obtain ⟨zs, hzs⟩ : ∃ zs, zs = (xs.drop i).flatMap (fun x : S74 => [Value.string x.f0, Value.string x.f1]) := ⟨_, rfl⟩
  have hzl : zs.length = (xs.length - i) * 2 := by rw [hzs, OpenFlat.cells_length impl_Pair_111.flat, List.length_drop]; rfl
  have hzd : zs = (cur.toList.take (xs.length * 2)).drop (i * 2) := by rw [hzs, hct]; exact (OpenFlat.cells_drop impl_Pair_111.flat i xs (by omega)).symm
  have hz1 : ∀ v ∈ zs, v.oneCell' = true := by rw [hzs]; exact OpenFlat.cells_one impl_Pair_111.flat _
  obtain ⟨gg, hgg⟩ : ∃ gg, gg = w.heap.size := ⟨_, rfl⟩
  rw [← hgg] at hrow1 hc2 hc3 hrz hgw hvw
  have hcpA : (Builtin.copy_ #[24, 24] 3 #[.slice (some ⟨gg, i * 2, none⟩) (xs.length + 1 - i) (G - i), .slice (some ⟨vb, 0, none⟩) 1 1]).run Try.prog W1 = .ok (goInt (1 : Nat)) (W1.setCells gg (i * 2) [.string x.f0, .string x.f1]) :=
    OpenFlat.run_copy_sized W1 _ _ _ 74 2 gg (i * 2) _ _ ⟨vb, 0, none⟩ _ _ [.string x.f0, .string x.f1] Try.underlying24 rfl (by decide) 1 (by simp only [Nat.min_def]; split <;> omega) rfl
      (fun j v hj => by rw [add_plain, cell_of_row W1 vb _ _ 74 (0, 0) hx1, ← Array.getElem?_toList]; exact hj)
      (fun j hj => by rw [cell_of_row W1 gg _ ROW 74 (0, 0) hrow1]; simp at hj ⊢; omega) (fun j hj => blk_frozen hrow1 _) (by intro v hv; simp at hv; rcases hv with rfl | rfl <;> rfl)
  obtain ⟨W2, hW2⟩ : ∃ W2, W2 = W1.setCells gg (i * 2) [.string x.f0, .string x.f1] := ⟨_, rfl⟩
  rw [← hW2] at hcpA
  obtain ⟨row2, hrow2, hs2, _⟩ := setCells_row [.string x.f0, .string x.f1] (i * 2) W1 ROW hrow1 (by simp; omega)
  rw [← hW2] at hrow2
  have hcur2 : W2.heap[g]? = some (.cells cur 74 (0, 0)) := by rw [hW2, setCells_far _ _ g (by omega)]; exact hcur1
  obtain ⟨W3, hW3⟩ : ∃ W3, W3 = W2.drew := ⟨_, rfl⟩
  have hrow3 : W3.heap[gg]? = some (.cells row2 74 (0, 0)) := by rw [hW3]; exact hrow2
  have hcur3 : W3.heap[g]? = some (.cells cur 74 (0, 0)) := by rw [hW3]; exact hcur2
  have hcpB : (Builtin.copy_ #[24, 24] 3 #[.slice (some ⟨gg, (i + 1) * 2, none⟩) (xs.length - i) (G - (i + 1)), .slice (some ⟨g, i * 2, none⟩) (xs.length - i) (c - i)]).run Try.prog W3 = .ok (goInt (xs.length - i : Nat)) (W3.setCells gg ((i + 1) * 2) zs) :=
    OpenFlat.run_copy_sized W3 _ _ _ 74 2 gg ((i + 1) * 2) _ _ ⟨g, i * 2, none⟩ _ _ zs Try.underlying24 rfl (by decide) (xs.length - i) (by simp only [Nat.min_def]; split <;> omega) hzl
      (fun j v hj => by
        rw [add_at, cell_of_row W3 g _ cur 74 (0, 0) hcur3, ← Array.getElem?_toList, ← hj, hzd, List.getElem?_drop, List.getElem?_take, if_pos (by have := (List.getElem?_eq_some_iff.1 hj).1; omega)])
      (fun j hj => by rw [cell_of_row W3 gg _ row2 74 (0, 0) hrow3]; simp; omega) (fun j hj => blk_frozen hrow3 _) hz1
  obtain ⟨W4, hW4⟩ : ∃ W4, W4 = W3.setCells gg ((i + 1) * 2) zs := ⟨_, rfl⟩
  rw [← hW4] at hcpB
  have hfin := OpenFlat.R_lay2 (W := W1) (base := w0.heap.size) (ok := fun _ => True) impl_Pair_111.flat x (xs.take i) (xs.drop i) (i := i) (n := xs.length + 1) (c := G) (by simp; omega) (by simp; omega) hGn hGm (by rw [hgg]; exact hB.size) trivial hrow1 hRs hRt
  rw [show k74.sz = 2 from rfl, ← hzs, ← hW2] at hfin
  have HB1 := Aside0.mk (show Below w0.heap.size w0 W1 by rw [hW1]; exact below_alloc (below_drew1 hB) _)
  have HF := Aside0.mk (show Kd.R k74 74 W4 w0.heap.size (fun _ => True) (.slice (some ⟨gg, 0, none⟩) (xs.length + 1) G) (xs.take i ++ x :: xs.drop i) by rw [hW4, hW3, ← OpenFlat.drew_setCells]; exact Kd.R_drew hfin.1)
  have HBF := Aside0.mk (show Below w0.heap.size w0 W4 by rw [hW4, hW3, ← OpenFlat.drew_setCells]; exact below_drew1 (HB1.out.grown hfin.2 HB1.out.size (fun k hk => by injection hk with hk; rw [← hk, hgg]; exact hB.size)))
  have HW3 := Aside0.mk hW3
  have HA := Aside0.mk hcpA
  have HBc := Aside0.mk hcpB
  have HRZ := Aside0.mk hrz
  clear hcpA hrz ho hx hcur hcs hct hcl hcur1 hzs hzl hzd hz1 hW2 hcur2 hs2 hW3 hfin hB hbg hW1 hcpB hi0 hz0 hzs0 hzb hG hROW hRs hRt hrow1 hkeep hx1 hrow2 hrow3 hcur3 hW4 hgg hgw hvw
  have hwr : IntKind.i64.wrap ((i : Int) + 1) = (i : Int) + 1 := by rw [IntKind.wrap_i64]; omega
  go_enter Try.func112, Try.ntmps112
  have hcA := HA.out
  go_wp2_with ((with_reducible refine gate_builtin (b := .append) (xs := #[.tmp 34, .tmp 39]) rfl ?_); at_builtin; refine Lib.wpList_append_run _ rfl _ _ _ _ rfl _ _ rfl rfl _ _ HRZ.out ?_)
  refine wp_region_still_tail 8 (by kernel_rfl) (by kernel_rfl) ?_
  simp only [List.take_succ_cons, List.take_zero, List.drop_succ_cons, List.drop_zero]
  still_step
  still_step
  still_step
  refine wpStill_step (fun K hK => ?_)
  go_simp
  refine hK _ ?_
  clear hK K
  still_step
  still_step
  still_step
  still_step
  refine wpStill_nil ?_
  rw [show ({ heap := W2.heap, tape := W2.tape, drawn := W2.drawn + 1, os := W2.os, output := W2.output } : World) = W2.drew from rfl, ← HW3.out]
  refine OpenFlat.wpList_copy_run _ rfl (.tmp 50) (.tmp 53) 24 24 rfl _ _ rfl rfl HBc.out ?_
  go_wp2
  go_ret
  exact ⟨_, rfl, HF.out, HBF.out⟩
set_option maxRecDepth 100000 in
/-- one element laid into an own row -/
theorem impl_Pair_112.calls (v : Value) (xs : List S74) (x : S74) (i vb : Nat) (w0 w : World) (hB : Below w0.heap.size w0 w) (ho : Kd.R k74 74 w w0.heap.size (fun k => k ≠ vb) v xs) (hi : i ≤ xs.length) (hn : xs.length ≤ 100000)
    (hx : w.heap[vb]? = some (.cells #[.string x.f0, .string x.f1] 74 (0, 0))) :
    Calls Try.prog 112 #[v, .int .i64 (i : Int), .slice (some ⟨vb, 0, none⟩) 1 1] w fun e w' => ∃ v', e = .returned v' ∧ Kd.R k74 74 w' w0.heap.size (fun _ => True) v' (xs.take i ++ x :: xs.drop i) ∧ Below w0.heap.size w0 w' := by
  by_cases c1 : i = xs.length
  · subst c1
    rw [List.take_length, List.drop_length]
    exact impl_Pair_112.end_ v xs x vb w0 w hB ho hn hx
  · rcases OpenFlat.R_cases (enc := fun x : S74 => [.string x.f0, .string x.f1]) ho with ⟨_, rfl⟩ | ⟨g, c, rfl⟩
    · simp at hi c1; omega
    · by_cases c2 : xs.length + 1 ≤ c
      · exact impl_Pair_112.shift g c xs x i vb w0 w hB ho (by omega) hn c2 hx
      · exact impl_Pair_112.grow g c xs x i vb w0 w hB ho (by omega) hn (by omega) hx


end Go.Proofs.Ythojdfndgfpkpaa.XA
