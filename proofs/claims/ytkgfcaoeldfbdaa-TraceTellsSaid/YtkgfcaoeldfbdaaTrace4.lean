/- The walk of the statement TraceTells. -/
import Derived.Test.YtkgfcaoeldfbdaaTrace3
namespace Go.Proofs.Ytkgfcaoeldfbdaa
open Go.RowKit Go.Sort

theorem ss_lit (w : World) (e : Nat) (cs : Array Value) (l : List Smp) (n : Nat) (hl : l.length = n) (hn : n ≤ maxLen) (hc : cs.toList = scells l) : Ss (w.alloc (.cells cs e)) (.slice (some ⟨w.heap.size, 0, none⟩) n n) l := by
  subst hl
  have h : (w.alloc (.cells cs e)).ownsRow w.heap.size e 3 (.slice (some ⟨w.heap.size, 0, none⟩) l.length l.length) l.length (scells l) := by
    rw [← hc]
    exact World.ownsRow_lit w cs l.length (Nat.le_refl _) hn (by rw [← Array.length_toList, hc, scells_len])
  exact Rd.of_own h

section
variable {P : Program} {t e : TypeId} {z : Value} {bytes : Nat} {w : World} {ops : Array Oper} {rest : List Oper} {o : Oper} {a : Act} {Q : Exit → Act → World → Prop} {base : Nat} {v : Value} {l : List Smp}
/-- wpList_append_smp, the new block's number spelled otherwise. -/
theorem wpList_append_smp_at (hown : Os w base e v l) (x : Smp) (E : ElTy P t e z 3 bytes) (h63 : (l.length + 1) * bytes ≤ 140737488355328) (hmx : l.length < 9223372036854775807) (hbase : base ≤ w.heap.size) (g : Nat) (hg : g = w.heap.size)
    (h : ∀ v' w', Os w' base e v' (l ++ [x]) → w.grownBy w' v.ownBlock → Below base w w' → wpList P ops Q rest (a.put o.dst v') w')
    (so xo : Operand) (hgd : o.guard = none) (ho : o.op = .call { callee := .builtin .append, args := #[so, xo], argTypes := #[t, t] })
    (u0 u1 u2 : Value) (hs : a.eval so = v) (hx : a.eval xo = .slice (some ⟨g, 0, none⟩) 1 1)
    (hu0 : u0 = .int .i64 x.t) (hu1 : u1 = .int .i64 x.x) (hu2 : u2 = .int .i64 x.y) : wpList P ops Q (o :: rest) a (w.alloc (.cells #[u0, u1, u2] e)) := by
  subst hg
  exact wpList_append_smp hown x E h63 hmx hbase h so xo hgd ho u0 u1 u2 hs hx hu0 hu1 hu2
end

def exL : List Smp := [⟨0, 0, 0⟩, ⟨1, 3, 1⟩, ⟨2, 3, 9⟩]
theorem exL_right : SRight exL := by
  intro i s hi
  match i, hi with
  | 0, hi => simp [exL] at hi; subst hi; exact ⟨by unfold SMay; decide, fun h => by omega⟩
  | 1, hi => simp [exL] at hi; subst hi; exact ⟨by unfold SMay; decide, fun _ p hp => by simp [exL] at hp; subst hp; decide⟩
  | 2, hi => simp [exL] at hi; subst hi; exact ⟨by unfold SMay; decide, fun _ p hp => by simp [exL] at hp; subst hp; decide⟩
  | i + 3, hi => simp [exL] at hi

theorem exL_len : slen 0 exL = 11 := by decide

set_option maxRecDepth 100000 in
theorem awake6 (w : World) : Calls Try.prog 30 #[] w fun e w' => e = .returned (.bool true) ∧ Below w.heap.size w w' := by
  have hl := Lib.hid (length_any _ exL _ (ss_lit w 47 #[.int .i64 0, .int .i64 0, .int .i64 0, .int .i64 1, .int .i64 3, .int .i64 1, .int .i64 2, .int .i64 3, .int .i64 9] exL 3 rfl (by simp [maxLen]) rfl) exL_right (by simp [exL]))
  rw [exL_len] at hl
  go_enter Try.func30, Try.ntmps30
  go_wp2_with fail
  refine hl.out.mono ?_
  rintro e w1 ⟨rfl, hb1⟩
  go_wp2
  go_ret
  exact ⟨rfl, ((Below.refl _ _).alloc (Nat.le_refl _) _).trans (hb1.mono (by simp))⟩

set_option maxHeartbeats 1600000 in
set_option maxRecDepth 100000 in
theorem tells_walk (va : Value) (l : List Smp) (f t : Int) (w : World) (ha : Ss w va l) (_hf : -9223372036854775808 ≤ f ∧ f ≤ 9223372036854775807) (_ht : -9223372036854775808 ≤ t ∧ t ≤ 9223372036854775807) :
    Calls Try.prog 8 #[va, .int .i64 f, .int .i64 t] w fun e w' => e = .returned (.bool true) ∧ Below w.heap.size w w' := by
  obtain ⟨n, hn⟩ : ∃ n, l.length = n := ⟨_, rfl⟩
  obtain ⟨a, ca, b1, o1, rfl, ha1, ha2, ha3, ha4, ha5⟩ := Ss.open_n elS ha n hn
  by_cases hl : n ≤ 500
  · have HN := Lib.hid hn
    clear hn
    have HA := Lib.hid ha
    clear ha
    have ha5' := Lib.hid ha5
    clear ha5
    go_enter Try.func8, Try.ntmps8
    go_wp2_with fail
    refine (awake6 _).mono ?_
    rintro e w1 ⟨rfl, hb1⟩
    go_wp2
    go_loopw [7, 17] (fun v i wr => ∃ k : Nat, k ≤ n ∧ i = .int .i64 k ∧ Os wr w.heap.size 47 v ((l.take k).filter (sel f t)) ∧ Below w.heap.size w wr) (fun _ i _ => n - (intOf i).toNat)
    case atStart => exact ⟨0, by omega, rfl, Os.nil _ _ _, hb1⟩
    case round =>
      obtain ⟨k, hk, rfl, ho, hw⟩ := hrel
      have hsz := hw.size
      by_cases hlt : k < n
      · obtain ⟨s, hs⟩ : ∃ s, l[k]? = some s := ⟨_, List.getElem?_eq_getElem (by have := HN.out; omega)⟩
        obtain ⟨p0, p1, p2⟩ := ha5'.out k s hs
        rw [← hw.cell (by exact ha4 k hlt)] at p0 p1 p2
        have hlen : ((l.take k).filter (sel f t)).length ≤ 1048576 := by
          have h1 := List.length_filter_le (sel f t) (l.take k)
          rw [List.length_take] at h1
          have := HN.out
          omega
        have htake : l.take (k + 1) = l.take k ++ [s] := by rw [List.take_add_one, hs]; rfl
        have HT := Lib.hid htake
        clear hs ha4 htake
        have HW1 : Below wr.heap.size wr (wr.alloc (.cells #[.int .i64 s.t, .int .i64 s.x, .int .i64 s.y] 47)) := (Below.refl _ _).alloc (Nat.le_refl _) _
        by_cases hse : f ≤ s.t ∧ s.t ≤ t
        · obtain ⟨hs1, hs2⟩ := hse
          have hsel : Hid (sel f t s = true) := by show _ = _; unfold sel; simp [hs1, hs2]
          have ho2 := ho.below HW1
          go_wp2_with (at_builtin; go_must (refine wpList_append_smp_at ho2 s elS (by omega) (by omega) (by simp; omega) (wr.heap.size + 1) (by simp) ?_ _ _ rfl rfl _ _ _ rfl rfl rfl rfl rfl); intro v3 w3 ho3 hg3 hb3; have HO3 := Lib.hid ho3; clear ho3)
          go_roundw
          case rel =>
            refine ⟨k + 1, by omega, by go_num, ?_, (hw.trans (HW1.mono hsz)).trans hb3⟩
            rw [HT.out, List.filter_append]
            simp only [List.filter_cons, hsel.out, if_true, List.filter_nil]
            exact HO3.out
          case measure => simp [intOf]; omega
        · have hsel : Hid (sel f t s = false) := by
            show _ = _; unfold sel; rw [Bool.and_eq_false_iff]; simp only [decide_eq_false_iff_not]; omega
          have hrel2 : ∃ k' : Nat, k' ≤ n ∧ (Value.int IntKind.i64 ((k : Int) + 1)) = .int .i64 k' ∧ Os (wr.alloc (.cells #[.int .i64 s.t, .int .i64 s.x, .int .i64 s.y] 47)) w.heap.size 47 u7 ((l.take k').filter (sel f t)) ∧ Below w.heap.size w (wr.alloc (.cells #[.int .i64 s.t, .int .i64 s.x, .int .i64 s.y] 47)) := by
            refine ⟨k + 1, by omega, by go_num, ?_, hw.trans (HW1.mono hsz)⟩
            rw [HT.out, List.filter_append]
            simp only [List.filter_cons, hsel.out, Bool.false_eq_true, if_false, List.filter_nil, List.append_nil]
            exact ho.below HW1
          have HR2 := Lib.hid hrel2
          clear hrel2
          by_cases h1 : f ≤ s.t
          all_goals
            go_wp2
            go_roundw
            case rel => exact HR2.out
            case measure => simp [intOf]; omega
      · have htake : l.take k = l := List.take_of_length_le (by have := HN.out; omega)
        rw [htake] at ho
        clear htake
        have ha' := HA.out.below hw
        go_wp2_with fail
        refine (between_any _ l f t _ ha' (by have := HN.out; omega)).mono ?_
        rintro e w2 ⟨v2, rfl, ho2, hb2⟩
        have hw2 := hw.trans (hb2.mono hsz)
        go_wp2_with fail
        refine (ssame_any _ _ _ _ ho2.ss (ho.ss.below hb2)).mono ?_
        rintro e w3 ⟨rfl, hb3⟩
        have hw3 := hw2.trans (hb3.mono hw2.size)
        go_wp2_with fail
        refine (rright_any _ l _ (HA.out.below hw3)).mono ?_
        rintro e w4 ⟨b, rfl, hbR, hb4⟩
        have hw4 := hw3.trans (hb4.mono hw3.size)
        cases b with
        | false =>
          clear hbR
          go_wp2
          go_ret
          exact ⟨rfl, hw4⟩
        | true =>
          have hR := Lib.hid (hbR.1 rfl)
          clear hbR
          go_wp2_with fail
          refine (length_any _ l _ (HA.out.below hw4) hR.out (by have := HN.out; omega)).mono ?_
          rintro e w5 ⟨rfl, hb5⟩
          have hw5 := hw4.trans (hb5.mono hw4.size)
          go_wp2_with fail
          refine (rlength_any _ l _ (HA.out.below hw5) hR.out (by have := HN.out; omega)).mono ?_
          rintro e w6 ⟨rfl, hb6⟩
          have hw6 := hw5.trans (hb6.mono hw5.size)
          go_wp2_with fail
          refine (gap_any _ l _ (HA.out.below hw6) hR.out (by have := HN.out; omega)).mono ?_
          rintro e w7 ⟨rfl, hb7⟩
          have hw7 := hw6.trans (hb7.mono hw6.size)
          go_wp2_with fail
          refine (rgap_any _ l _ (HA.out.below hw7) hR.out (by have := HN.out; omega)).mono ?_
          rintro e w8 ⟨rfl, hb8⟩
          have hw8 := hw7.trans (hb8.mono hw7.size)
          go_wp2
          go_ret
          exact ⟨ret_bool (by simp), hw8⟩
  · have hl' : (500 : Int) < n := by omega
    clear ha ha5 hn
    go_enter Try.func8, Try.ntmps8
    go_wp2_with fail
    refine (awake6 _).mono ?_
    rintro e w1 ⟨rfl, hb1⟩
    go_wp2
    go_ret
    exact ⟨rfl, hb1⟩

end Go.Proofs.Ytkgfcaoeldfbdaa
