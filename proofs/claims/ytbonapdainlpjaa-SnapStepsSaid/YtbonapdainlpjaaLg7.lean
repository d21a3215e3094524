/- Layer 35 (log): noughts appended to bytes of one's own; the room; Clear. -/
import Derived.Test.YtbonapdainlpjaaLg6
import Derived.Lib.AppendZerosOnto
import Derived.Lib.QuietBelow
set_option linter.unusedSimpArgs false
namespace Go.Proofs.Ytbonapdainlpjaa
open Go.RowKit Go.Sort

theorem zero_bytes (k : Nat) : (Builtin.zeroCells (Value.int .u8 0).cells k).toList = gcells csU (List.replicate k (0 : UInt8)) := by
  rw [gcU]
  apply List.ext_getElem
  · simp [Builtin.zeroCells, Value.cells]
  · intro i h1 h2
    simp [Builtin.zeroCells, Value.cells, bv, Nat.mod_one]

theorem Ob.row1 {w : World} {B e : Nat} {v : Value} {l : List UInt8} (h : Ob w B e v l) (h0 : 0 < l.length) : ∃ g cap, v = .slice (some ⟨g, 0, none⟩) l.length cap ∧ B ≤ g ∧ Row 1 csU w e g cap l := by
  have h' : Gw 1 csU w B e v l := by unfold Gw; rw [gcU]; exact h
  exact h'.row (by intro e; rw [e] at h0; simp at h0)

/-- append(s, make([]byte, k)...) at bytes of one's own -/
theorem run_append_zeros (w : World) (B : Nat) (v : Value) (l : List UInt8) (k : Nat) (h : Ob w B 5 v l) (h0 : 0 < l.length) (hk : l.length + k ≤ 1000000000) (hB : B ≤ w.heap.size) (ty : TypeId) :
    ∃ v' w', (Builtin.append_ #[43, 3] ty #[v, .int .i64 (k : Int)]).run Try.prog w = .ok v' w' ∧ Ob w' B 5 v' (l ++ List.replicate k 0) ∧ Below B w w' := by
  obtain ⟨g, cap, rfl, hBg, hrow⟩ := h.row1 h0
  obtain ⟨i0, hi0, hz0, hs0, hb0⟩ := elB.2.1
  have hw : IntKind.i64.wrap (k : Int) = k := by rw [IntKind.wrap_i64]; omega
  have hneg : ¬ ((k : Int) < 0) := by omega
  have h48 : ¬ (281474976710656 < (k : Int)) := by omega
  by_cases hroom : l.length + k ≤ cap
  · have hov := hrow.over layU l.length (Nat.le_refl _) (List.replicate k 0) (by simpa using hroom)
    rw [List.take_of_length_le (Nat.le_refl _), List.drop_of_length_le (by omega), List.append_nil, Nat.mul_one] at hov
    refine ⟨.slice (some ⟨g, 0, none⟩) (l.length + k) cap, w.setCells g l.length (gcells csU (List.replicate k 0)), ?_, ?_, hov.2.below (fun j hj => by rw [hj]; exact hBg) hB⟩
    · by_cases hk0 : k = 0
      · subst hk0
        have hz : gcells csU (List.replicate 0 (0 : UInt8)) = [] := rfl
        rw [hz]
        have hw0 : IntKind.i64.wrap 0 = 0 := by decide
        have hle : l.length ≤ cap := hrow.le
        simp [Builtin.append_, run_underlying Try.underlying43, run_underlying Try.underlying3, sizeOf, typeInfo, hi0, asInt, asIntOf, hw0, hle, hb0, hs0, storeCells, World.setCells]
      · have hst := run_storeCells_cells (P := Try.prog) g l.length (gcells csU (List.replicate k (0 : UInt8))) 0 w (fun j hj => hrow.some _ (by rw [gcells_len layU, List.length_replicate] at hj; omega)) (fun j _ => hrow.free _) (gcells_one layU _)
        rw [← zero_bytes] at hst ⊢
        have hns : ¬ (k * 1 = 0) := by omega
        simp [Builtin.append_, run_underlying Try.underlying43, run_underlying Try.underlying3, sizeOf, typeInfo, zeroValue, hi0, hz0, asInt, asIntOf, hw, hroom, hb0, hs0, hneg, h48, hk0, Addr.add_lit, hst]
    · have := hov.1.ob hBg
      rw [List.length_append, List.length_replicate] at this
      exact this
  · have hcells : ∀ j u, (l.map bv)[j]? = some u → w.drew.cell? ⟨g, j, none⟩ = some u := fun j u hu => by
      have hj : j < l.length := by have := (List.getElem?_eq_some_iff.1 hu).1; simpa using this
      have hx : l[j]? = some l[j] := List.getElem?_eq_getElem hj
      have := hrow.cell layU hx (j := 0) (u := bv l[j]) rfl
      rw [List.getElem?_map, hx] at hu
      simp only [Option.map_some, Option.some.injEq] at hu
      subst hu
      simpa using this
    have hold : (Builtin.firstCells i0.size l.length (.slice (some ⟨g, 0, none⟩) l.length cap)).run Try.prog w.drew = .ok (l.map bv).toArray w.drew := by
      rw [hs0]
      exact run_firstCells_some w.drew 1 l.length ⟨g, 0, none⟩ l.length cap (l.map bv) (by simp) (fun j u hj => by
        rw [Addr.add_lit, Nat.zero_add]
        exact hcells j u hj)
    have hcap := hrow.le
    have hr := Lib.run_append_grow_zeros w 43 3 ty 5 i0 _ .i64 .i64 Try.underlying43 Try.underlying3 hi0 hz0 (some ⟨g, 0, none⟩) l.length cap (l.map bv) hold k (by omega) (by omega) (by omega) (by omega) (by rw [hb0]; omega) (by rw [hb0]; exact growslice_fits (by omega) (by omega))
    obtain ⟨C, hC⟩ : ∃ C, grownCap w (l.length + k) cap 5 = C := ⟨_, rfl⟩
    have hCn : l.length + k ≤ C := by rw [← hC]; exact grownCap_ge w _ _ _
    have hCm : C ≤ maxLen := by rw [← hC]; exact grownCap_le_maxLen w (l.length + k) cap 5 (by unfold maxLen; omega)
    rw [hC] at hr
    have hz2 : ∀ k, (Builtin.zeroCells (Value.int .u8 0).cells k).toList.length = k := fun k => by rw [zero_bytes, gcells_len layU]; simp
    refine ⟨_, _, hr, ?_, (Below.refl B w).drew.alloc (by simpa using hB) _⟩
    have hR : Row 1 csU (w.drew.alloc (.cells ((l.map bv).toArray ++ Builtin.zeroCells (Value.int .u8 0).cells k ++ Builtin.zeroCells (Value.int .u8 0).cells (C - (l.length + k))) 5)) 5 w.drew.heap.size C (l ++ List.replicate k 0) := by
      refine Row.fresh w.drew 5 _ _ C (by simpa using hCn) hCm ?_ ?_
      · rw [Array.size_append, Array.size_append, ← Array.length_toList (xs := Builtin.zeroCells _ k), ← Array.length_toList (xs := Builtin.zeroCells _ (C - (l.length + k))), hz2, hz2]
        simp; omega
      · rw [gcells_append, gcU, ← zero_bytes, List.length_append, List.length_replicate]
        simp only [Array.toList_append]
        rw [List.take_append_of_le_length (by rw [List.length_append, hz2]; simp), List.take_of_length_le (by rw [List.length_append, hz2]; simp)]
    have := hR.ob (B := B) (by simpa using hB)
    rw [List.length_append, List.length_replicate] at this
    exact this

theorem wpList_append_run {P : Program} {w : World} {ops : Array Oper} {rest : List Oper} {o : Oper} {a : Act} {Q : Exit → Act → World → Prop} (hgd : o.guard = none) (x y : Operand) (t t' : TypeId)
    (ho : o.op = .call { callee := .builtin .append, args := #[x, y], argTypes := #[t, t'] }) (v u : Value) (hx : a.eval x = v) (hy : a.eval y = u) {v' : Value} {w' : World}
    (hr : (Builtin.append_ #[t, t'] o.type #[v, u]).run P w = .ok v' w') (h : wpList P ops Q rest (a.put o.dst v') w') : wpList P ops Q (o :: rest) a w :=
  wpList_plain hgd fun K hK => by
    unfold Oper.wp execOp
    simp only [ho, resolve, invoke, builtin, Sem.run_bind, Sem.run_pure, Result.andThen_ok, List.map_toArray, List.map_cons, List.map_nil, hx, hy, hr]
    exact hK _ _ h

/-! the room -/
set_option maxRecDepth 100000 in
set_option maxHeartbeats 1600000 in
theorem lRoom_any (w : World) (B lg bb bc g : Nat) (vr : Value) (ps : List Rc) (d : Lg) (h : LoAt w B lg bb bc g vr ps d) :
    Calls Try.prog 48 #[.pointer (some ⟨lg, 0, none⟩)] w fun e w' => e = .returned (.int .i64 (lroom (d.n * 64 - d.fin) : Int)) ∧ Below w.heap.size w w' := by
  obtain ⟨c0, -, -, c3, c4, -, -⟩ := h.cells
  have C := Lib.hid (lIs_any lg g w c0)
  have hfin := h.fin
  have hn2 := h.n2
  obtain ⟨f, hf⟩ : ∃ f, d.n * 64 - d.fin = f := ⟨_, rfl⟩
  obtain ⟨N, hN⟩ : ∃ N, d.n * 64 = N := ⟨_, rfl⟩
  obtain ⟨q, hq⟩ : ∃ q, d.fin = q := ⟨_, rfl⟩
  have hff : (N : Int) - (q : Int) = (f : Int) := by omega
  have hf1 : f ≤ 2097152 := by omega
  rw [hN] at c3
  rw [hq] at c4
  rw [hf]
  have hN1 : N ≤ 2097152 := by omega
  have hq1 : q ≤ 2097152 := by omega
  clear h hf hN hq hfin hn2
  go_enter Try.func48, Try.ntmps48
  go_wp2_with (go_at_call 93; refine C.out.mono ?_; rintro e w' ⟨rfl, rfl⟩)
  have r3 := fun d os => cell_regrown c3 d os
  have r4 := fun d os => cell_regrown c4 d os
  clear c3 c4
  refine wp_region_quiet_below (by kernel_rfl) (by kernel_rfl) ?_
  repeat (go_big_quiet_step ((fail)))
  refine wpQuiet_nil ?_
  intro _ hw'
  obtain ⟨⟨dq, osq⟩, hw''⟩ := hw'
  subst hw''
  have HB2 := below_regrown w' dq osq
  obtain ⟨W2, hwq⟩ : ∃ x, x = grow (redrawn w' dq) osq := ⟨_, rfl⟩
  rw [← hwq] at HB2 ⊢
  clear hwq
  have HB2 := Lib.hid HB2
  go_wp2_with fail
  all_goals
    go_loopw [4] (fun vi wr => ∃ m : Int, -2 ≤ m ∧ m ≤ 262144 ∧ vi = .int .i64 m ∧ Hid (ldown f m.toNat = lroom f) ∧ Hid (Below w'.heap.size w' wr)) (fun vi _ => (intOf vi).toNat)
    case atStart => exact ⟨_, by omega, by omega, rfl, by first | (show ldown f _ = _; rw [show ((f : Int) - 2).toNat = min (f - 2) 262144 by omega]; rfl) | (show ldown f _ = _; rw [show ((262144 : Int)).toNat = min (f - 2) 262144 by omega]; rfl), HB2⟩
    case round =>
      obtain ⟨m, hl, hu, rfl, HD, HB⟩ := hrel
      by_cases hm : 0 < m
      · have CP := Lib.hid (put_int m (by omega) (by omega) wr)
        obtain ⟨k, hk⟩ : ∃ k, m.toNat = k + 1 := ⟨m.toNat - 1, by omega⟩
        have hv : (vput m.toNat).length ≤ 10 := vput_len10 _ (by omega)
        obtain ⟨L, hL⟩ : ∃ L, (vput m.toNat).length = L := ⟨_, rfl⟩
        rw [hL] at hv
        have HL := Lib.hid hL
        have HK := Lib.hid hk
        have hD := HD.out
        rw [hk] at hD
        unfold ldown lfits at hD
        rw [← hk, hL] at hD
        clear hL
        by_cases hc : L + m.toNat + 1 ≤ f
        · have e3 : decide ((L : Int) + m + 1 ≤ (f : Int)) = true := decide_eq_true (by omega)
          have HR : Hid ((lroom f : Int) = m) := by show _ = _; rw [decide_eq_true hc, if_pos rfl] at hD; rw [← hD]; omega
          clear hD hc hk
          go_wp2_with (go_at_call 95; refine CP.out.mono ?_; rintro e w1 ⟨v1, rfl, ho1, hb1⟩; obtain ⟨av, cv, hsv⟩ := ho1.shape; rw [HL.out] at hsv; subst hsv; have HB1 := Lib.hid (HB.out.trans (hb1.mono HB.out.size)); clear ho1 hb1)
          go_ret
          exact ⟨ret_int HR.out.symm, HB1.out⟩
        · have e3 : decide ((L : Int) + m + 1 ≤ (f : Int)) = false := decide_eq_false (by omega)
          have HR : Hid (ldown f (m - 1).toNat = lroom f) := by show _ = _; rw [decide_eq_false hc, if_neg (by simp)] at hD; rw [show (m - 1).toNat = k by omega]; exact hD
          clear hD hc hk
          go_wp2_with (go_at_call 95; refine CP.out.mono ?_; rintro e w1 ⟨v1, rfl, ho1, hb1⟩; obtain ⟨av, cv, hsv⟩ := ho1.shape; rw [HL.out] at hsv; subst hsv; have HB1 := Lib.hid (HB.out.trans (hb1.mono HB.out.size)); clear ho1 hb1)
          go_roundw
          case rel => exact ⟨m - 1, by omega, by omega, by go_num, HR, HB1⟩
          case measure => simp [intOf]; omega
      · have HR : Hid ((lroom f : Int) = 0) := by show _ = _; rw [← HD.out, show m.toNat = 0 by omega]; rfl
        go_wp2
        go_ret
        exact ⟨ret_int HR.out.symm, HB.out⟩

theorem lRoom_nil (w : World) : Calls Try.prog 48 #[.pointer none] w fun e w' => e = .returned (.int .i64 0) ∧ w' = w := by
  go_enter Try.func48, Try.ntmps48
  go_wp2_with (go_at_call 93; refine (lIs_nil w).mono ?_; rintro e w' ⟨rfl, rfl⟩)
  go_ret
  exact ⟨rfl, rfl⟩

end Go.Proofs.Ytbonapdainlpjaa
