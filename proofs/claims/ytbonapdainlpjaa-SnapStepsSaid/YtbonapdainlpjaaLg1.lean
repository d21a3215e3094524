/- Layer 35 (log): records on the heap; the small walks of both sides: first, stands, the room, what is small, the same. -/
import Derived.Test.YtbonapdainlpjaaLg0
import Derived.Test.YtbonapdainlpjaaVTake
import Derived.Test.YtbonapdainlpjaaRset
import Derived.Deep.DeepCutAuto
import Derived.Deep.CutBlock
set_option linter.unusedSimpArgs false
namespace Go.Proofs.Ytbonapdainlpjaa
open Go.RowKit Go.Sort

theorem info_ob : (Try.prog.info? 43).map (fun i => (i.zero, i.size, i.bytes)) = some (some (.slice none 0 0), 1, 24) := by kernel_rfl
theorem elOB : ElTy Try.prog 65 43 (.slice none 0 0) 1 24 := ⟨Try.underlying65, info_parts info_ob, rfl, by decide⟩

/-- a record: where its bytes lie, and they -/
abbrev Rc := (Option Addr × Nat × Nat) × List UInt8
def Rc.v (t : Rc) : Value := .slice t.1.1 t.1.2.1 t.1.2.2
def csP (t : Rc) : List Value := [t.v]
theorem layP : Lay 1 csP := ⟨fun _ => rfl, fun a u h => by simp only [csP, List.mem_singleton] at h; subst h; rfl, by decide⟩
def Rcs (w : World) (v : Value) (ps : List Rc) : Prop := Gs 1 csP w v ps ∧ ∀ p ∈ ps, Bs w p.v p.2
def rbs (ps : List Rc) : List (List UInt8) := ps.map (·.2)
theorem Rcs.below {w w' : World} {v : Value} {ps : List Rc} (h : Rcs w v ps) (hb : Below w.heap.size w w') : Rcs w' v ps := ⟨h.1.below hb, fun p hp => (h.2 p hp).below hb⟩

theorem Bs.str {w : World} {v : Value} {l : List UInt8} (h : Bs w v l) : (convert 43 9 v).run Try.prog w = .ok (.string ⟨l.toArray⟩) w := by
  obtain ⟨_, a, c, rfl, h2, h3, h4, h5⟩ := h
  cases a with
  | none =>
    obtain rfl := h4 rfl
    have : l = [] := List.eq_nil_of_length_eq_zero (by omega)
    subst this
    rw [run_convert_bytes_string w 43 9 5 none _ _ Try.underlying43 Try.underlying5 Try.underlying9]
    rfl
  | some ad =>
    refine run_convert_bytes_back w 43 9 5 ad c l Try.underlying43 Try.underlying5 Try.underlying9 fun j hj => ?_
    rcases h5 with h5 | ⟨b, off, he, _, hc⟩
    · omega
    · cases he
      rw [Addr.add_lit]
      exact hc j _ (by simp [hj, bv])

theorem str_beq (la lb : List UInt8) : ((⟨la.toArray⟩ : ByteArray).toList == (⟨lb.toArray⟩ : ByteArray).toList) = (la == lb) := by
  rw [Go.ByteArray.toList_eq, Go.ByteArray.toList_eq]

theorem equal_any (va vb : Value) (la lb : List UInt8) (w : World) (ha : Bs w va la) (hb : Bs w vb lb) :
    Calls Try.prog 116 #[va, vb] w fun e w' => e = .returned (.bool (la == lb)) ∧ w = w' := by
  obtain ⟨a, ca, hs⟩ := ha.shape
  subst hs
  obtain ⟨b, cb, hs⟩ := hb.shape
  subst hs
  have h1 := ha.str
  have h2 := hb.str
  obtain ⟨sa, hsa⟩ : ∃ s : ByteArray, s = ⟨la.toArray⟩ := ⟨_, rfl⟩
  obtain ⟨sb, hsb⟩ : ∃ s : ByteArray, s = ⟨lb.toArray⟩ := ⟨_, rfl⟩
  rw [← hsa] at h1
  rw [← hsb] at h2
  have HA := Lib.hid hsa
  have HB := Lib.hid hsb
  clear hsa hsb ha hb
  go_enter Try.func116, Try.ntmps116
  go_wp2
  go_ret
  exact ⟨ret_bool (by rw [HA.out, HB.out, str_beq]), rfl⟩

theorem ret_vi {v : Value} {a b : Int} (h : a = b) : Ending.returned (.tuple #[v, .int .i64 a]) = .returned (.tuple #[v, .int .i64 b]) := by rw [h]

/-! first -/
set_option maxRecDepth 100000 in
set_option maxHeartbeats 800000 in
theorem first_no (vb : Value) (l : List UInt8) (w : World) (hb : Bs w vb l) (hlen : l.length ≤ 1000000000) (h : lfirst l = none) :
    Calls Try.prog 90 #[vb] w fun e w' => e = .returned (.tuple #[.slice none 0 0, .int .i64 0]) ∧ Below w.heap.size w w' := by
  obtain ⟨a, ca, adr, rfl, ha1, ha2, ha3, ha4, ha5⟩ := Bs.open_ elB hb
  have C := Lib.hid (take_any _ l w hb)
  have hg := vtake_good l
  unfold lfirst at h
  obtain ⟨n, hn⟩ : ∃ n, (vtake l).1 = n := ⟨_, rfl⟩
  obtain ⟨k, hk⟩ : ∃ n, (vtake l).2.1 = n := ⟨_, rfl⟩
  obtain ⟨E, hE⟩ : ∃ n, (vtake l).2.2 = n := ⟨_, rfl⟩
  rw [hn, hk, hE] at h C hg
  have HA5 := Lib.hid ha5
  have HA4 := Lib.hid ha4
  clear ha5 ha4
  by_cases h0 : E = 0
  · subst h0
    obtain ⟨g1, g2, g3, -⟩ := hg rfl
    clear hn hk hE
    have e0 : (((0 : Nat) : Int) != 0) = false := by simp
    by_cases h1 : n < 1
    · have e1 : (n : Int) < 1 := by omega
      clear h
      go_enter Try.func90, Try.ntmps90
      go_wp2_with (go_at_call 114; refine C.out.mono ?_; rintro e w1 ⟨rfl, hb1⟩; have HB1 := Lib.hid hb1; clear hb1)
      go_ret2
      exact ⟨rfl, HB1.out⟩
    · have e1 : ¬ (n : Int) < 1 := by omega
      by_cases h2 : 262144 < n
      · have e2 : (262144 : Int) < n := by omega
        clear h
        go_enter Try.func90, Try.ntmps90
        go_wp2_with (go_at_call 114; refine C.out.mono ?_; rintro e w1 ⟨rfl, hb1⟩; have HB1 := Lib.hid hb1; clear hb1)
        go_ret2
        exact ⟨rfl, HB1.out⟩
      · have e2 : ¬ (262144 : Int) < n := by omega
        by_cases h3 : l.length ≤ k + n
        · have e3 : (l.length : Int) ≤ (k : Int) + n := by omega
          clear h
          go_enter Try.func90, Try.ntmps90
          go_wp2_with (go_at_call 114; refine C.out.mono ?_; rintro e w1 ⟨rfl, hb1⟩; have HB1 := Lib.hid hb1; clear hb1)
          go_ret2
          exact ⟨rfl, HB1.out⟩
        · have e3 : ¬ (l.length : Int) ≤ (k : Int) + n := by omega
          obtain ⟨x, hx⟩ : ∃ x, l[k + n]? = some x := ⟨_, List.getElem?_eq_getElem (by omega)⟩
          have hne : ¬ x = 165 := by
            rintro rfl
            rw [if_pos ⟨rfl, by omega, by omega, hx⟩] at h
            cases h
          have e4 : ((x.toNat : Int) != 165) = true := by
            simp only [bne_iff_ne, ne_eq]
            intro hc
            exact hne (UInt8.toNat_inj.1 (by rw [show (165 : UInt8).toNat = 165 from rfl]; omega))
          have hix := fun W => ha3 W ((k : Int) + n) (by omega) (by omega)
          rw [show ((k : Int) + n).toNat = k + n by omega] at hix
          have hcell := HA5.out _ _ hx
          have hlt := HA4.out (k + n) (by omega)
          have HX := Lib.hid hcell
          have HLT := Lib.hid hlt
          clear h hne hx hcell hlt ha3
          go_enter Try.func90, Try.ntmps90
          go_wp2_with (go_at_call 114; refine C.out.mono ?_; rintro e w1 ⟨rfl, hb1⟩; have HB1 := Lib.hid hb1; have hc1 := (hb1.cell (by exact HLT.out)).trans HX.out; clear hb1)
          go_ret2
          exact ⟨rfl, HB1.out⟩
  · have e0 : ((E : Int) != 0) = true := by simp; omega
    clear h hn hk hE hg
    go_enter Try.func90, Try.ntmps90
    go_wp2_with (go_at_call 114; refine C.out.mono ?_; rintro e w1 ⟨rfl, hb1⟩; have HB1 := Lib.hid hb1; clear hb1)
    go_ret2
    exact ⟨rfl, HB1.out⟩

set_option maxRecDepth 100000 in
set_option maxHeartbeats 800000 in
theorem first_yes (vb : Value) (l : List UInt8) (w : World) (hb : Bs w vb l) (r : List UInt8) (q : Nat) (h : lfirst l = some (r, q)) :
    Calls Try.prog 90 #[vb] w fun e w' => ∃ v, e = .returned (.tuple #[v, .int .i64 (q : Int)]) ∧ Ob w' w.heap.size 5 v r ∧ Below w.heap.size w w' := by
  obtain ⟨a, ca, adr, rfl, ha1, ha2, ha3, ha4, ha5⟩ := Bs.open_ elB hb
  have C := Lib.hid (take_any _ l w hb)
  have hg := vtake_good l
  unfold lfirst at h
  obtain ⟨n, hn⟩ : ∃ n, (vtake l).1 = n := ⟨_, rfl⟩
  obtain ⟨k, hk⟩ : ∃ n, (vtake l).2.1 = n := ⟨_, rfl⟩
  obtain ⟨E, hE⟩ : ∃ n, (vtake l).2.2 = n := ⟨_, rfl⟩
  rw [hn, hk, hE] at h C hg
  have HA5 := Lib.hid ha5
  have HA4 := Lib.hid ha4
  clear ha5 ha4
  split at h
  · rename_i hc
    obtain ⟨rfl, h1, h2, hx⟩ := hc
    simp only [Option.some.injEq, Prod.mk.injEq] at h
    obtain ⟨hr, hq⟩ := h
    obtain ⟨g1, g2, g3, -⟩ := hg rfl
    have hlt3 := (List.getElem?_eq_some_iff.1 hx).1
    have hix := fun W => ha3 W ((k : Int) + n) (by omega) (by omega)
    rw [show ((k : Int) + n).toNat = k + n by omega] at hix
    have hcell := HA5.out _ _ hx
    have hlt := HA4.out (k + n) (by omega)
    obtain ⟨Y, hY, hYb⟩ := Bs.piece (P := Try.prog) elB hb k (k + n) (by omega) (by omega)
    rw [show k + n - k = n by omega, hr] at hYb
    rw [show (((k + n : Nat)) : Int) = (k : Int) + n by omega] at hY
    have hrl : r.length ≤ 262144 := by rw [← hr]; simp; omega
    have e0 : (((0 : Nat) : Int) != 0) = false := by simp
    have e1 : ¬ (n : Int) < 1 := by omega
    have e2 : ¬ (262144 : Int) < n := by omega
    have e3 : ¬ (l.length : Int) ≤ (k : Int) + n := by omega
    have e4 : (((165 : UInt8).toNat : Int) != 165) = false := by decide
    have HX := Lib.hid hcell
    have HLT := Lib.hid hlt
    have HYB := Lib.hid hYb
    have HQ : Hid ((k : Int) + n + 1 = (q : Int)) := by show _ = _; omega
    have HRL := Lib.hid hrl
    clear hg hn hk hE hr hq hx hcell hlt ha3 hYb hb hrl
    go_enter Try.func90, Try.ntmps90
    go_wp2_with (first | (go_at_call 114; refine C.out.mono ?_; rintro e w1 ⟨rfl, hb1⟩; have HB1 := Lib.hid hb1; have hc1 := (hb1.cell (by exact HLT.out)).trans HX.out; clear hb1) | (go_at_call 98; refine (clone1_any Y r _ (HYB.out.below HB1.out) (by have := HRL.out; omega)).mono ?_; rintro e w2 ⟨v2, rfl, ho2, hb2⟩; have HO2 := Lib.hid ho2; have HB2 := Lib.hid (HB1.out.trans (hb2.mono HB1.out.size)); clear ho2 hb2))
    go_ret2
    exact ⟨_, ret_vi HQ.out, HO2.out.mono HB1.out.size, HB2.out⟩
  · cases h

/-! stands -/
set_option maxRecDepth 100000 in
set_option maxHeartbeats 800000 in
theorem stands_any (v : Value) (r : List UInt8) (w : World) (h : Bs w v r) (hl : r.length ≤ 1000000) :
    Calls Try.prog 97 #[v] w fun e w' => ∃ v', e = .returned v' ∧ Ob w' w.heap.size 5 v' (lstands r) ∧ Below w.heap.size w w' := by
  obtain ⟨a, ca, rfl⟩ := h.shape
  have H := Lib.hid h
  have C := Lib.hid (put_int (r.length : Int) (by omega) (by omega) w)
  rw [show ((r.length : Int)).toNat = r.length by omega] at C
  have hv : (vput r.length).length ≤ 10 := vput_len10 _ (by omega)
  have HV := Lib.hid hv
  have HL := Lib.hid hl
  clear h hv
  go_enter Try.func97, Try.ntmps97
  go_wp2_with (first | (go_at_call 95; refine C.out.mono ?_; rintro e w1 ⟨v1, rfl, ho1, hb1⟩; have HO1 := Lib.hid ho1; have HB1 := Lib.hid hb1; have HS1 := hb1.size; clear ho1 hb1) | (at_builtin; refine wpList_append_bytes HO1.out (H.out.below HB1.out) elB (by have := HV.out; have := HL.out; omega) (by have := HV.out; have := HL.out; omega) HS1 ?_ _ _ rfl rfl rfl rfl; intro v2 w2 ho2 hg2 hb2 _; have HO2 := Lib.hid ho2; have HB2 := Lib.hid (HB1.out.trans hb2); have HS2 := Nat.le_trans HS1 hb2.size; clear ho2 hg2 hb2) | (at_builtin; refine wpList_append_byte HO2.out 165 elB (by rw [List.length_append]; have := HV.out; have := HL.out; omega) (by rw [List.length_append]; have := HV.out; have := HL.out; omega) HS2 ?_ _ _ rfl rfl _ rfl rfl rfl; intro v3 w3 ho3 hg3 hb3; have HO3 := Lib.hid ho3; have HB3 := Lib.hid (HB2.out.trans hb3); clear ho3 hg3 hb3))
  go_ret
  exact ⟨_, rfl, HO3.out, HB3.out⟩

set_option maxRecDepth 100000 in
set_option maxHeartbeats 800000 in
theorem rstands_any (v : Value) (r : List UInt8) (w : World) (h : Bs w v r) (hl : r.length ≤ 1000000) :
    Calls Try.prog 52 #[v] w fun e w' => ∃ v', e = .returned v' ∧ Ob w' w.heap.size 5 v' (lstands r) ∧ Below w.heap.size w w' := by
  obtain ⟨a, ca, rfl⟩ := h.shape
  have H := Lib.hid h
  have C := Lib.hid (rput_int (r.length : Int) (by omega) (by omega) w)
  rw [show ((r.length : Int)).toNat = r.length by omega] at C
  have hv : (vput r.length).length ≤ 10 := vput_len10 _ (by omega)
  have HV := Lib.hid hv
  have HL := Lib.hid hl
  clear h hv
  go_enter Try.func52, Try.ntmps52
  go_wp2_with (first | (go_at_call 96; refine C.out.mono ?_; rintro e w1 ⟨v1, rfl, ho1, hb1⟩; have HO1 := Lib.hid ho1; have HB1 := Lib.hid hb1; have HS1 := hb1.size; clear ho1 hb1) | (at_builtin; refine wpList_append_bytes HO1.out (H.out.below HB1.out) elB (by have := HV.out; have := HL.out; omega) (by have := HV.out; have := HL.out; omega) HS1 ?_ _ _ rfl rfl rfl rfl; intro v2 w2 ho2 hg2 hb2 _; have HO2 := Lib.hid ho2; have HB2 := Lib.hid (HB1.out.trans hb2); have HS2 := Nat.le_trans HS1 hb2.size; clear ho2 hg2 hb2) | (at_builtin; refine wpList_append_byte HO2.out 165 elB (by rw [List.length_append]; have := HV.out; have := HL.out; omega) (by rw [List.length_append]; have := HV.out; have := HL.out; omega) HS2 ?_ _ _ rfl rfl _ rfl rfl rfl; intro v3 w3 ho3 hg3 hb3; have HO3 := Lib.hid ho3; have HB3 := Lib.hid (HB2.out.trans hb3); clear ho3 hg3 hb3))
  go_ret
  exact ⟨_, rfl, HO3.out, HB3.out⟩

/-! the document's room -/
set_option maxRecDepth 100000 in
set_option maxHeartbeats 800000 in
theorem rroom_any (f : Nat) (hf : f ≤ 1000000000) (w : World) :
    Calls Try.prog 49 #[.int .i64 (f : Int)] w fun e w' => e = .returned (.int .i64 (lroom f : Int)) ∧ Below w.heap.size w w' := by
  obtain ⟨M, hM⟩ : ∃ M, min f 262144 = M := ⟨_, rfl⟩
  have hM1 : M ≤ f := by omega
  have hM2 : M ≤ 262144 := by omega
  have hM3 : M = f ∨ M = 262144 := by omega
  have HR : Hid (ldown f M = lroom f) := by show _ = _; rw [← hM, lroom_ref]
  clear hM
  go_enter Try.func49, Try.ntmps49
  go_wp2_with fail
  go_loopw [3, 4] (fun vb vi wr => ∃ k : Nat, k ≤ M ∧ vi = .int .i64 ((k : Int) + 1) ∧ vb = .int .i64 (ldown f k : Int) ∧ Hid (Below w.heap.size w wr)) (fun _ vi _ => M + 1 - (intOf vi).toNat)
  case atStart => exact ⟨0, by omega, rfl, rfl, Below.refl _ _⟩
  case round =>
    obtain ⟨k, hk, rfl, rfl, HB⟩ := hrel
    by_cases hlt : k < M
    · have C := Lib.hid (rput_int ((k : Int) + 1) (by omega) (by omega) wr)
      rw [show ((k : Int) + 1).toNat = k + 1 by omega] at C
      have hv : (vput (k + 1)).length ≤ 10 := vput_len10 _ (by omega)
      have HF : Hid (ldown f (k + 1) = if (vput (k + 1)).length + (k + 1) + 1 ≤ f then k + 1 else ldown f k) := by
        show _ = _
        rw [ldown]; unfold lfits
        by_cases hc : (vput (k + 1)).length + (k + 1) + 1 ≤ f
        · rw [if_pos (by rw [decide_eq_true hc]), if_pos hc]
        · rw [if_neg (by rw [decide_eq_false hc]; simp), if_neg hc]
      obtain ⟨L, hL⟩ : ∃ L, (vput (k + 1)).length = L := ⟨_, rfl⟩
      rw [hL] at hv HF
      have HLL := Lib.hid hL
      have e1 : (k : Int) + 1 ≤ f := by omega
      have e2 : (k : Int) + 1 ≤ 262144 := by omega
      clear hL
      by_cases hc : L + (k + 1) + 1 ≤ f
      · have e3 : (L : Int) + ((k : Int) + 1) + 1 ≤ f := by omega
        have HF2 : Hid (((ldown f (k + 1) : Nat) : Int) = (k : Int) + 1) := by show _ = _; rw [HF.out, if_pos hc]; omega
        go_wp2_with (go_at_call 96; refine C.out.mono ?_; rintro e w1 ⟨v1, rfl, ho1, hb1⟩; obtain ⟨av, cv, hsv⟩ := ho1.shape; rw [HLL.out] at hsv; subst hsv; have HB1 := Lib.hid (HB.out.trans (hb1.mono HB.out.size)); clear ho1 hb1)
        go_roundw
        case rel => exact ⟨k + 1, by omega, by go_num, by rw [HF2.out], HB1⟩
        case measure => simp [intOf]; omega
      · have e3 : decide ((L : Int) + ((k : Int) + 1) + 1 ≤ (f : Int)) = false := decide_eq_false (by omega)
        have HF2 : Hid (ldown f (k + 1) = ldown f k) := by show _ = _; rw [HF.out, if_neg hc]
        have HK := Lib.hid (show k + 1 ≤ M from hlt)
        clear hc hM3 hlt hk HF
        go_wp2_with fail
        refine C.out.mono ?_
        rintro e w1 ⟨v1, rfl, ho1, hb1⟩
        obtain ⟨av, cv, hsv⟩ := ho1.shape
        rw [HLL.out] at hsv
        subst hsv
        have HB1 := Lib.hid (HB.out.trans (hb1.mono HB.out.size))
        clear ho1 hb1 C
        go_wp2
        go_roundw
        case rel => exact ⟨k + 1, HK.out, by go_num, by rw [HF2.out], HB1⟩
        case measure => simp [intOf]; have := HK.out; omega
    · obtain rfl : k = M := by omega
      by_cases e1 : (k : Int) + 1 ≤ f
      · have e2 : ¬ (k : Int) + 1 ≤ 262144 := by omega
        go_wp2
        go_ret
        exact ⟨ret_int (by rw [HR.out]), HB.out⟩
      · go_wp2
        go_ret
        exact ⟨ret_int (by rw [HR.out]), HB.out⟩

/-! what is small -/
def lsmall (ps : List Rc) : Prop := (∀ p ∈ ps, p.2.length ≤ 300) ∧ ps.length ≤ 30

def SmallPost (w : World) (ps : List Rc) (e : Ending) (w' : World) : Prop := ∃ b : Bool, e = .returned (.bool b) ∧ (b = true ↔ lsmall ps) ∧ Below w.heap.size w w'
set_option maxRecDepth 100000 in
set_option maxHeartbeats 800000 in
theorem small_any (v : Value) (ps : List Rc) (w : World) (h : Rcs w v ps) :
    Calls Try.prog 50 #[v] w (SmallPost w ps) := by
  obtain ⟨h, hin⟩ := h
  obtain ⟨n, hn⟩ : ∃ n, ps.length = n := ⟨_, rfl⟩
  obtain ⟨a, c, b, o, rfl, h1, h2, hix, hlt', hcell, -⟩ := h.open_n layP elOB n hn
  have HC := Lib.hid hcell
  have HN := Lib.hid hn
  have HLT := Lib.hid hlt'
  have HIN := Lib.hid hin
  have hn1 : n ≤ 9223372036854775807 := by omega
  clear h hn hcell hlt' hin
  go_enter Try.func50, Try.ntmps50
  go_wp2_with fail
  go_loopw [7] (fun vi wr => ∃ k : Nat, k ≤ n ∧ vi = .int .i64 k ∧ Hid (∀ p ∈ ps.take k, p.2.length ≤ 300) ∧ Hid (Below w.heap.size w wr)) (fun vi _ => n - (intOf vi).toNat)
  case atStart => exact ⟨0, by omega, rfl, fun p hp => by simp at hp, Below.refl _ _⟩
  case round =>
    obtain ⟨k, hk, rfl, HP, HB⟩ := hrel
    by_cases hlt : k < n
    · have e2 : (k : Int) < n := by omega
      obtain ⟨x, hs⟩ : ∃ s, ps[k]? = some s := ⟨_, List.getElem?_eq_getElem (by have := HN.out; omega)⟩
      have m0 := HC.out k x hs 0 _ rfl
      rw [Nat.add_zero] at m0
      rw [← HB.out.cell (by exact HLT.out k hlt)] at m0
      have hixk := fun W => hix W k hlt
      have HX := Lib.hid (HIN.out x (List.mem_of_getElem? hs))
      have HS := Lib.hid hs
      obtain ⟨⟨xa, xn, xc⟩, xl⟩ := x
      obtain rfl : xn = xl.length := by
        obtain ⟨_, a', c', he, _⟩ := HX.out
        simp only [Rc.v, Value.slice.injEq] at he
        exact he.2.1
      simp only [Rc.v] at m0
      have HLTK := Lib.hid hlt
      clear hs
      by_cases hc : 300 < xl.length
      · have e3 : (300 : Int) < xl.length := by omega
        go_wp2
        go_ret
        refine ⟨false, rfl, ⟨(fun h => by cases h), fun h => ?_⟩, HB.out⟩
        have := h.1 _ (List.mem_of_getElem? HS.out)
        simp only at this
        omega
      · have e3 : ¬ (300 : Int) < xl.length := by omega
        have HP2 : Hid (∀ p ∈ ps.take (k + 1), p.2.length ≤ 300) := by
          intro p hp
          rw [List.take_add_one, HS.out] at hp
          rcases List.mem_append.1 hp with hp | hp
          · exact HP.out p hp
          · simp at hp; subst hp; simp only; omega
        go_wp2
        go_roundw
        case rel => exact ⟨k + 1, by have := HLTK.out; omega, by go_num, HP2, HB⟩
        case measure => simp [intOf]; have := HLTK.out; omega
    · obtain rfl : k = n := by omega
      have e2 : ¬ (k : Int) < k := by omega
      have hall := HP.out
      rw [List.take_of_length_le (by rw [HN.out]; exact Nat.le_refl _)] at hall
      have HALL := Lib.hid hall
      clear hall
      by_cases h30 : k ≤ 30
      · have e3 : (k : Int) ≤ 30 := by omega
        go_wp2
        go_ret
        exact ⟨true, rfl, ⟨fun _ => ⟨HALL.out, by rw [HN.out]; exact h30⟩, fun _ => rfl⟩, HB.out⟩
      · have e3 : ¬ (k : Int) ≤ 30 := by omega
        go_wp2
        go_ret
        exact ⟨false, rfl, ⟨(fun h => by cases h), fun h => absurd (HN.out ▸ h.2) h30⟩, HB.out⟩

end Go.Proofs.Ytbonapdainlpjaa
