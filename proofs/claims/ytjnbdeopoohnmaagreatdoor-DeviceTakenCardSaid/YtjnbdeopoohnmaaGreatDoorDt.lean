/- Dt: Dt1, Dt2, Dt2R as one text. -/
import Derived.Test.YtjnbdeopoohnmaaGreatDoorDv6
import Derived.Test.YtjnbdeopoohnmaaGreatDoorDv5
import Derived.Test.YtjnbdeopoohnmaaGreatDoorDv4
import Derived.Test.YtjnbdeopoohnmaaGreatDoorChB
import Derived.Test.YtjnbdeopoohnmaaGreatDoorDa1
import Derived.Test.YtjnbdeopoohnmaaGreatDoorTraceP
import Derived.Test.YtjnbdeopoohnmaaGreatDoorSamp8
import Derived.Test.YtjnbdeopoohnmaaGreatDoorFrameR
import Derived.Test.YtjnbdeopoohnmaaGreatDoorFrame
import Derived.Deep.RegionLaw
import Derived.Deep.RegionHeld3
import Derived.Deep.DeepCutAuto
import Derived.Deep.CutBlock
import Derived.Lib.QuietBelow
import Derived.Lib.SliceRun
import Derived.SizedLaws
/- Layer 48 (device): the plain part of DeviceTaken: samples that are recorded, thinned; what is answered is taken. -/
namespace Go.Proofs.YtjnbdeopoohnmaaGreatDoor
open Go.RowKit Go.Sort

def SGap (gap : Int) (l : List Smp) : Prop := ∀ i s p, l[i + 1]? = some s → l[i]? = some p → gap ≤ s.t - p.t
theorem SGap.snoc {gap : Int} {l : List Smp} {s : Smp} (h : SGap gap l) (hl : ∀ p, l.getLast? = some p → gap ≤ s.t - p.t) : SGap gap (l ++ [s]) := by
  intro i a p ha hp
  by_cases h1 : i + 1 < l.length
  · rw [List.getElem?_append_left h1] at ha
    rw [List.getElem?_append_left (by omega)] at hp
    exact h i a p ha hp
  · have h2 := (List.getElem?_eq_some_iff.1 ha).1
    simp only [List.length_append, List.length_cons, List.length_nil] at h2
    have h3 : i + 1 = l.length := by omega
    rw [h3, List.getElem?_concat_length] at ha
    obtain rfl := Option.some.inj ha
    rw [List.getElem?_append_left (by omega)] at hp
    exact hl p (by rw [List.getLast?_eq_getElem?, ← h3]; exact hp)
theorem sright_snoc {l : List Smp} {s : Smp} (h : SRight l) (hm : SMay s) (hl : ∀ p, l.getLast? = some p → p.t < s.t) : SRight (l ++ [s]) := by
  intro i a ha
  by_cases h1 : i < l.length
  · rw [List.getElem?_append_left h1] at ha
    refine ⟨(h i a ha).1, fun h0 p hp => ?_⟩
    rw [List.getElem?_append_left (by omega)] at hp
    exact (h i a ha).2 h0 p hp
  · have h2 := (List.getElem?_eq_some_iff.1 ha).1
    simp only [List.length_append, List.length_cons, List.length_nil] at h2
    have h3 : i = l.length := by omega
    rw [h3, List.getElem?_concat_length] at ha
    obtain rfl := Option.some.inj ha
    refine ⟨hm, fun h0 p hp => hl p ?_⟩
    rw [List.getElem?_append_left (by omega)] at hp
    rw [List.getLast?_eq_getElem?, ← h3]
    exact hp
theorem sthin_fold {gap : Int} (hg : 0 < gap) : ∀ (r acc : List Smp), (∀ s ∈ r, SMay s) → SRight acc → SGap gap acc → SRight (r.foldl (tpush gap) acc) ∧ SGap gap (r.foldl (tpush gap) acc) ∧ (r.foldl (tpush gap) acc).length ≤ acc.length + r.length
  | [], acc, _, h2, h3 => ⟨h2, h3, by simp⟩
  | s :: r, acc, h1, h2, h3 => by
    have key : SRight (tpush gap acc s) ∧ SGap gap (tpush gap acc s) ∧ (tpush gap acc s).length ≤ acc.length + 1 := by
      unfold tpush
      split
      · rename_i hn
        exact ⟨sright_snoc h2 (h1 s (by simp)) (fun p hp => by rw [hn] at hp; cases hp), h3.snoc (fun p hp => by rw [hn] at hp; cases hp), by simp⟩
      · rename_i p hp
        split
        · rename_i hgp
          exact ⟨sright_snoc h2 (h1 s (by simp)) (fun p' hp' => by rw [hp] at hp'; obtain rfl := Option.some.inj hp'; omega), h3.snoc (fun p' hp' => by rw [hp] at hp'; obtain rfl := Option.some.inj hp'; exact hgp), by simp⟩
        · exact ⟨h2, h3, by omega⟩
    obtain ⟨a, b, c⟩ := sthin_fold hg r (tpush gap acc s) (fun x hx => h1 x (by simp [hx])) key.1 key.2.1
    exact ⟨a, b, by have := key.2.2; simp only [List.foldl_cons, List.length_cons]; omega⟩
theorem sthin_ok {gap : Int} (hg : 0 < gap) {l : List Smp} (h : SRight l) : SRight (sthin gap l) ∧ SGap gap (sthin gap l) ∧ (sthin gap l).length ≤ l.length := by
  have := sthin_fold hg l [] (fun s hs => by obtain ⟨i, hi⟩ := List.getElem?_of_mem hs; exact (h i s hi).1) (fun i s hs => by simp at hs) (fun i s p hs => by simp at hs)
  simpa [sthin] using this
theorem sthin_keep {gap : Int} : ∀ (r acc : List Smp), SGap gap (acc ++ r) → r.foldl (tpush gap) acc = acc ++ r
  | [], acc, _ => by simp
  | s :: r, acc, h => by
    have hp : tpush gap acc s = acc ++ [s] := by
      unfold tpush
      split
      · rfl
      · rename_i p hp
        rw [List.getLast?_eq_getElem?] at hp
        have hlt := (List.getElem?_eq_some_iff.1 hp).1
        rw [if_pos]
        refine h (acc.length - 1) s p ?_ ?_
        · rw [show acc.length - 1 + 1 = acc.length by omega, List.getElem?_append_right (Nat.le_refl _)]
          simp
        · rw [List.getElem?_append_left hlt]
          exact hp
    rw [List.foldl_cons, hp, sthin_keep r (acc ++ [s]) (by simpa using h)]
    simp
theorem sthin_twice {gap : Int} (hg : 0 < gap) {l : List Smp} (h : SRight l) : sthin gap (sthin gap l) = sthin gap l :=
  sthin_keep _ [] (by simpa using (sthin_ok hg h).2.1)

theorem th_of {d : DvD} (h : DRight d) : thE d 7 = 0 ∧ thD d 7 = ⟨d.tk, d.ky, sthin 7 d.sm⟩ ∧ DRight ⟨d.tk, d.ky, sthin 7 d.sm⟩ := by
  have h1 : thE d 7 = 0 := by unfold thE; rw [pB_yes h, if_neg (by simp)]
  have h2 := sthin_ok (gap := 7) (by decide) h.2.2.1
  exact ⟨h1, by unfold thD; rw [if_pos h1], h.1, h.2.1, h2.1, by have := h.2.2.2; exact Nat.le_trans h2.2.2 this⟩
theorem th_twice {d : DvD} (h : DRight d) : thE ⟨d.tk, d.ky, sthin 7 d.sm⟩ 7 = 0 ∧ thD ⟨d.tk, d.ky, sthin 7 d.sm⟩ 7 = ⟨d.tk, d.ky, sthin 7 d.sm⟩ := by
  obtain ⟨h1, h2, -⟩ := th_of (th_of h).2.2
  exact ⟨h1, by rw [h2]; show (⟨d.tk, d.ky, sthin 7 (sthin 7 d.sm)⟩ : DvD) = _; rw [sthin_twice (by decide) h.2.2.1]⟩
theorem rec_ok {d : DvD} {s : Smp} (h : DRight d) (he : recE d s = 0) : recD d s = ⟨d.tk, d.ky, d.sm ++ [s]⟩ ∧ DRight ⟨d.tk, d.ky, d.sm ++ [s]⟩ := by
  refine ⟨by unfold recD; rw [if_pos he], h.1, h.2.1, ?_⟩
  unfold recE at he
  rw [pB_yes h] at he
  split at he
  · exact absurd he (by decide)
  · rename_i hm
    split at he
    · exact absurd he (by decide)
    · rename_i hl
      split at he
      · exact absurd he (by decide)
      · rename_i hs
        have hmay : SMay s := (mayB_iff s).1 (by cases hb : mayB s <;> simp_all)
        refine ⟨sright_snoc h.2.2.1 hmay (fun p hp => ?_), ?_⟩
        · unfold slate at hs
          rw [hp] at hs
          simp only [decide_eq_true_eq] at hs
          omega
        · have := h.2.2.2
          simp only [List.length_append, List.length_cons, List.length_nil]
          omega
theorem rec_no {d : DvD} {s : Smp} (he : recE d s ≠ 0) : recD d s = dvz := by unfold recD; rw [if_neg he]
theorem cdev_good {l : List RK} {b : List UInt8} (h : (cdev l b).2 = 0) : ∃ t k, topen b = (t, ttag k t, 0) ∧ kf t.ep l = some k ∧ tmay t = true ∧ (cdev l b).1.length = 32 := by
  obtain ⟨t, tag, er, hto⟩ : ∃ t tag er, topen b = (t, tag, er) := ⟨_, _, _, rfl⟩
  by_cases he : er = 0
  · subst he
    rcases hk : kf t.ep l with _ | k
    · rw [cdev_key hto hk] at h
      exact absurd h (by decide)
    · rw [cdev_some hto hk] at h ⊢
      split at h
      · exact absurd h (by decide)
      · rename_i h1
        have h3 : tag = ttag k t := by simpa using h1
        exact ⟨t, k, by rw [hto, h3], hk, (topen_ok hto).1, by rw [if_neg h1]; exact htag_len _ _⟩
  · rw [cdev_e hto he] at h
    exact absurd h he
theorem new_right {l : List RK} {b : List UInt8} (h : (cdev l b).2 = 0) : DRight ⟨b, (cdev l b).1, []⟩ := by
  obtain ⟨t, k, hto, hk, hm, hl⟩ := cdev_good h
  exact ⟨by rw [hto], hl, fun i s hs => by simp at hs, by simp⟩
theorem tok_win {t : Tok} (h : tmay t = true) : 0 ≤ t.iss ∧ t.iss ≤ t.til ∧ t.til ≤ 1099511627776 ∧ t.iss ≤ 1099511627776 := by
  obtain ⟨-, -, -, h4, h5, -⟩ := (tmay_iff t).1 h
  omega
theorem check_taken {l : List RK} {b q : List UInt8} (h : (cdev l b).2 = 0) (hq : q.length = 16) :
    cmay q (topen b).1.iss = true ∧ ccheck l b q (cans (cdev l b).1 q (topen b).1.iss) (topen b).1.til ((topen b).1.til - (topen b).1.iss) = ((topen b).1, 0) := by
  obtain ⟨t, k, hto, hk, hm, hl⟩ := cdev_good h
  rw [hto]
  show cmay q t.iss = true ∧ ccheck l b q (cans (cdev l b).1 q t.iss) t.til (t.til - t.iss) = (t, 0)
  obtain ⟨h1, h2, h3, h4⟩ := tok_win hm
  have hv : tverify l b t.til = (t, 0) := by
    rw [tver_some hto hk, if_neg (by simp), if_neg (by omega)]
  have hc1 : cmay q t.iss = true := (cmay_iff q _).2 ⟨hq, h1, h4⟩
  have hc2 : cmay q t.til = true := (cmay_iff q _).2 ⟨hq, by omega, h3⟩
  exact ⟨hc1, by rw [ccheck_cans hc2 (by omega) hv hc1, if_neg (by omega), if_neg (by simp)]⟩
end Go.Proofs.YtjnbdeopoohnmaaGreatDoor
/- Layer 48 (device): DeviceTaken: the walk. -/
set_option linter.unusedSimpArgs false
set_option linter.unusedVariables false
namespace Go.Proofs.YtjnbdeopoohnmaaGreatDoor
open Go.RowKit Go.Sort

theorem Ss.dev_put {w w' : World} {v : Value} {l : List Smp} {g T : Nat} {a1 a2 a3 : Option Addr} {n1 n2 n3 c1 c2 c3 : Nat} (h : Ss w v l) (hg : w.heap[g]? = some (.cells #[.slice a1 n1 c1, .slice a2 n2 c2, .slice a3 n3 c3] T (0, 0))) (ho : Only (fun k => k = g) w w') : Ss w' v l := by
  by_cases hl : l = []
  · subst hl
    obtain ⟨h1, a, c, rfl, h2, h3, h4, _⟩ := h
    exact ⟨h1, a, c, rfl, h2, h3, h4, .inl rfl⟩
  · refine Rd.only h ho ?_
    obtain ⟨h1, a, c, rfl, h2, h3, h4, h5⟩ := h
    rcases h5 with h5 | ⟨b, off, rfl, hlt, h6⟩
    · exact absurd (List.eq_nil_of_length_eq_zero h5) hl
    · intro k hk e
      simp only [Value.ownBlock, Option.some.injEq] at hk
      obtain rfl : b = g := hk.trans e
      obtain ⟨x, r, rfl⟩ : ∃ x r, l = x :: r := by cases l with | nil => exact absurd rfl hl | cons x r => exact ⟨x, r, rfl⟩
      have h7 := h6 0 (.int .i64 x.t) (by simp [scells, Smp.cells])
      simp only [World.cell?, hg] at h7
      clear h6 h1 h2 h3 h4 ho hg hl hlt hk
      rcases (show off + 0 = 0 ∨ off + 0 = 1 ∨ off + 0 = 2 ∨ 3 ≤ off + 0 by omega) with e | e | e | e
      all_goals simp_all
theorem Dv.dev_put {w w' : World} {vt vk vs : Value} {d : DvD} {g T : Nat} {a1 a2 a3 : Option Addr} {n1 n2 n3 c1 c2 c3 : Nat} (h : Dv w vt vk vs d) (hg : w.heap[g]? = some (.cells #[.slice a1 n1 c1, .slice a2 n2 c2, .slice a3 n3 c3] T (0, 0))) (ho : Only (fun k => k = g) w w') : Dv w' vt vk vs d :=
  ⟨h.tk.only' ho fun hl k hk e => Bs.ne_dev h.tk hg hl (by rw [hk, e]), h.ky.only' ho fun hl k hk e => Bs.ne_dev h.ky hg hl (by rw [hk, e]), h.sm.dev_put hg ho⟩

def tbytesOk (sm : List Smp) : Prop := (tbytes sm).length ≤ 1048576 ∧ ttake (tbytes sm) = (sm, 0)
theorem ttake_puts (l : List Smp) (h : SRight l) (hl : l.length ≤ 2048) : ttake (tbytes l) = (l, 0) := by
  have hsl := sputs_bound h (by omega)
  have hvl := vput_len10 l.length (by omega)
  have h1 := fwhole_frame 1 (vput l.length ++ sputs szero l) (by simp; omega)
  have h2 := rnum_vput (most := 2048) (l := vput l.length ++ sputs szero l) (r := sputs szero l) (pos := 0) (n := l.length) (by simp) (by omega) (by omega)
  have h3 := stake_put l [] h hl
  rw [List.append_nil] at h3
  have hd : (vput l.length ++ sputs szero l).drop (0 + (vput l.length).length) = sputs szero l := by simp
  rw [← hd] at h3
  unfold tbytes
  rw [ttake_eq h1 h2 h3, if_neg (by simp), if_neg (by simp), if_neg (by simp), if_neg]
  rw [hd]
  simp
theorem tb_ok {sm : List Smp} (hR : SRight sm) (hl : sm.length ≤ 2048) : tbytesOk sm := by
  have hfl := fframe_len 1 (vput sm.length ++ sputs szero sm)
  have hsl := sputs_bound hR (by omega)
  have hvl := vput_len10 sm.length (by omega)
  have hcl : (vput sm.length ++ sputs szero sm).length ≤ 61450 := by simp; omega
  have hvl2 := vput_len10 (vput sm.length ++ sputs szero sm).length (by omega)
  have e : (tbytes sm).length = (fframe 1 (vput sm.length ++ sputs szero sm)).length := rfl
  exact ⟨by rw [e]; omega, ttake_puts sm hR hl⟩
theorem cans_len100 (ky qs : List UInt8) {n : Int} (h : cmay qs n = true) : (cans ky qs n).length ≤ 200 := by
  have h1 := cbody_len ky qs (cmay_wf h)
  have h2 := fframe_len 6 (cbody ky qs n)
  have h3 := vput_len10 (cbody ky qs n).length (by omega)
  have e : (cans ky qs n).length = (fframe 6 (cbody ky qs n)).length := rfl
  omega
theorem eq_tok (a b c d e f : Int) (w : World) : (Op.equalIn 10000 62 (.agg #[.int .i64 a, .int .i64 b, .int .i64 c, .int .i64 d, .int .i64 e, .int .i64 f]) (.agg #[.int .i64 a, .int .i64 b, .int .i64 c, .int .i64 d, .int .i64 e, .int .i64 f])).run Tryz.prog w = .ok true w := by
  have u3 := Tryz.underlying3
  have a3 := Tryz.isAgg3
  have z3 := Tryz.sizeOf3
  rw [show (10000 : Nat) = 9999 + 1 from rfl, Op.equalIn]
  simp only [Sem.run_bind, run_underlying Tryz.underlying62, Result.andThen_ok]
  go_simp
theorem new_box (w : World) (A : Array Value) (T : Nat) : ∃ V g, w.alloc (.cells A T) = V ∧ w.heap.size = g ∧ Below w.heap.size w V ∧ V.heap[g]? = some (.cells A T (0, 0)) :=
  ⟨_, _, rfl, rfl, (Below.refl _ _).alloc (Nat.le_refl _) _, heap_alloc_new w _⟩

set_option maxRecDepth 100000 in
set_option maxHeartbeats 6400000 in
theorem devicetaken_walk (keep : Int) (v : Value) (l : List RK) (vb : Value) (b : List UInt8) (vl : Value) (ls : List Smp) (w : World) (h : Ks w v l) (hb : Bs w vb b) (hs : Ss w vl ls) (hsm : ∀ k ∈ l, k.b.length ≤ 140737488351232) (hT : Tabbed w) :
    Calls Tryz.prog 4 #[.agg #[.int .i64 keep, v], vb, vl] w fun e w' => e = .returned (.bool true) ∧ Below w.heap.size w w' := by
  obtain ⟨q, hqq⟩ : ∃ q, w.heap.size = q := ⟨_, rfl⟩
  obtain ⟨W, hW⟩ : ∃ W, w.alloc (.cells #[.int .i64 keep, v] 24) = W := ⟨_, rfl⟩
  have hb0 : Below w.heap.size w W := by rw [← hW]; exact (Below.refl _ _).alloc (Nat.le_refl _) _
  have hrA : W.heap[q]? = some (.cells #[.int .i64 keep, v] 24 (0, 0)) := by rw [← hW, ← hqq]; exact heap_alloc_new _ _
  have TR : Hid (∀ {V1 V2 V3 : World}, Below V1.heap.size V1 V2 → Below V2.heap.size V2 V3 → Below V1.heap.size V1 V3) := fun h1 h2 => h1.trans (h2.mono h1.size)
  have HB0 := Lib.hid hb0
  have HKK : Hid (∀ V : World, Below W.heap.size W V → Ks V v l) := fun V hV => h.below (TR.out hb0 hV)
  have HBB : Hid (∀ V : World, Below W.heap.size W V → Bs V vb b) := fun V hV => hb.below (TR.out hb0 hV)
  have HTT : Hid (∀ V : World, Below W.heap.size W V → Tabbed V) := fun V hV => hT.below (TR.out hb0 hV)
  have HRA := Lib.hid (fun (V : World) (hV : Below W.heap.size W V) => two_at ((hV.block q (heap_lt hrA)).trans hrA))
  have HSM := Lib.hid hsm
  have CA := Lib.hid (dvawake_any W (hT.below hb0))
  obtain ⟨n, hn⟩ : ∃ n, l.length = n := ⟨_, rfl⟩
  obtain ⟨bn, hbn⟩ : ∃ n, b.length = n := ⟨_, rfl⟩
  obtain ⟨sn, hsn⟩ : ∃ n, ls.length = n := ⟨_, rfl⟩
  obtain ⟨a, c, hvs⟩ := h.g.shape
  obtain ⟨ba, bc, hbs⟩ := hb.shape
  obtain ⟨sa, sc, b1, o1, hss, -, -, hix, hlb, hcell⟩ := Ss.open_n elS hs sn hsn
  rw [hn] at hvs
  rw [hbn] at hbs
  subst hvs hbs hss
  have HBN := Lib.hid hbn
  have HIX := Lib.hid hix
  have HSN := Lib.hid hsn
  have HCE : Hid (∀ V : World, Below W.heap.size W V → ∀ i x, ls[i]? = some x → V.cell? ⟨b1, o1 i, none⟩ = some (.int .i64 x.t) ∧ V.cell? ⟨b1, o1 i + 1, none⟩ = some (.int .i64 x.x) ∧ V.cell? ⟨b1, o1 i + 2, none⟩ = some (.int .i64 x.y)) := fun V hV i x hi => by
    have hb := TR.out hb0 hV
    have hl := hlb i (by rw [← hsn]; exact (List.getElem?_eq_some_iff.1 hi).1)
    have := hcell i x hi
    rw [← hb.cell (by exact hl), ← hb.cell (by exact hl), ← hb.cell (by exact hl)] at this
    exact this
  obtain ⟨x0, x1⟩ := HRA.out W (Below.refl _ _)
  clear h hb hs hT hsm hb0 hrA hn hbn hsn hix hlb hcell
  go_enter Tryz.func4, Tryz.ntmps4
  go_wp2_with fail
  refine CA.out.mono ?_
  rintro e w1 ⟨rfl, hb1⟩
  have HB1 := Lib.hid hb1
  have HBF : Hid (Below w.heap.size w w1) := TR.out HB0.out hb1
  clear hb1 CA x0 x1
  obtain ⟨x0, x1⟩ := HRA.out w1 HB1.out
  by_cases hc1 : 500 < bn
  · have e1 : (500 : Int) < bn := by omega
    clear hc1
    go_wp2
    go_ret
    exact ⟨rfl, HBF.out⟩
  have e1 : ¬ (500 : Int) < bn := by omega
  by_cases hc2 : 60 < sn
  · have e2 : (60 : Int) < sn := by omega
    clear hc1 hc2
    go_wp2
    go_ret
    exact ⟨rfl, HBF.out⟩
  have e2 : ¬ (60 : Int) < sn := by omega
  by_cases hc3 : 30 < n
  · have e3 : (30 : Int) < n := by omega
    clear hc1 hc2 hc3
    go_wp2
    go_ret
    exact ⟨rfl, HBF.out⟩
  have e3 : ¬ (30 : Int) < n := by omega
  have HBL : Hid (b.length ≤ 1048576) := by show _ ≤ _; rw [HBN.out]; omega
  have HS60 : Hid (sn ≤ 60) := by show _ ≤ _; omega
  clear hc1 hc2 hc3
  have HGE : Hid (W.heap.size ≤ w1.heap.size) := HB1.out.size
  have CN := Lib.hid (dvnew_anyL keep (.slice a n c) l (.slice ba bn bc) b w1 (HKK.out w1 HB1.out) (HBB.out w1 HB1.out) HBL.out HSM.out (HTT.out w1 HB1.out))
  unfold DvNewPost at CN
  go_wp2_with fail
  by_cases hce : (cdev l b).2 = 0
  case neg =>
    have hnd : newD l b = dvz := if_neg hce
    obtain ⟨Z, hZ⟩ : ∃ z : Int, (((cdev l b).2 : Nat) : Int) = z := ⟨_, rfl⟩
    have e5 : (Z != 0) = true := by simp; omega
    rw [hnd, hZ] at CN
    clear hnd hZ hce
    refine CN.out.mono ?_
    rintro e w2 ⟨vt, vk, vs, rfl, hd, hb2⟩
    obtain ⟨ta, tc, s1⟩ := hd.tk.shape
    obtain ⟨ya, yc, s2⟩ := hd.ky.shape
    obtain ⟨ma, mc, s3⟩ := hd.sm.shape
    change vt = .slice ta 0 tc at s1
    change vk = .slice ya 0 yc at s2
    change vs = .slice ma 0 mc at s3
    subst s1 s2 s3
    obtain ⟨V2, g7, hV2, hg7, hal, hrow⟩ := new_box w2 #[.slice ta 0 tc, .slice ya 0 yc, .slice ma 0 mc] 28
    have HB2 := Lib.hid (TR.out HB1.out (TR.out hb2 hal))
    have HBF2 := Lib.hid (TR.out HB0.out HB2.out)
    obtain ⟨u0, u1, u2⟩ := three_at hrow
    have HV2 := Lib.hid hV2
    have HG7 := Lib.hid hg7
    clear hd hb2 hal hrow hV2 hg7 x0 x1 CN
    go_upto_region 6 with (with_reducible refine wpList_store_new rfl _ _ rfl rfl rfl (by kernel_rfl) (by simp) (by simp [Value.oneCell']) ?_)
    rw [HV2.out, HG7.out]
    go_wp2
    go_ret
    exact ⟨rfl, HBF2.out⟩
  case pos =>
  have hnd : newD l b = ⟨b, (cdev l b).1, []⟩ := if_pos hce
  have HCE0 := Lib.hid hce
  have HRN := Lib.hid (new_right (l := l) (b := b) hce)
  obtain ⟨ky, hky⟩ : ∃ k, (cdev l b).1 = k := ⟨_, rfl⟩
  have HKY := Lib.hid hky
  rw [hky] at hnd HRN
  rw [hnd, hce] at CN
  have HK32 : Hid (ky.length = 32) := HRN.out.2.1
  clear hnd hky hce
  refine CN.out.mono ?_
  rintro e w2 ⟨vt, vk, vs, rfl, hd, hb2⟩
  obtain ⟨ta, tc, s1⟩ := hd.tk.shape
  obtain ⟨ya, yc, s2⟩ := hd.ky.shape
  obtain ⟨ma, mc, s3⟩ := hd.sm.shape
  change vt = .slice ta b.length tc at s1
  change vk = .slice ya ky.length yc at s2
  change vs = .slice ma 0 mc at s3
  rw [HBN.out] at s1
  rw [HK32.out] at s2
  subst s1 s2 s3
  obtain ⟨V2, g7, hV2, hg7, hal, hrow⟩ := new_box w2 #[.slice ta bn tc, .slice ya 32 yc, .slice ma 0 mc] 28
  have HB2 := Lib.hid (TR.out HB1.out (TR.out hb2 hal))
  have HG : Hid (W.heap.size ≤ g7) := by show _ ≤ _; rw [← hg7]; exact Nat.le_trans HGE.out hb2.size
  have HROW2 := Lib.hid hrow
  have HD2 := Lib.hid (hd.below hal)
  have HV2 := Lib.hid hV2
  have HG7 := Lib.hid hg7
  clear hd hb2 hal hrow hV2 hg7 x0 x1 CN
  go_upto_region 6 with (with_reducible refine wpList_store_new rfl _ _ rfl rfl rfl (by kernel_rfl) (by simp) (by simp [Value.oneCell']) ?_)
  rw [HV2.out, HG7.out]
  clear HV2 HG7
  go_wp2_with fail
  go_loopg [59] sn (fun qq vi wr => ∃ (k : Nat) (sm : List Smp) (mn : Nat) (xa : Option Addr) (xc : Nat) (za : Option Addr) (zc : Nat) (ma : Option Addr) (mc : Nat), qq = sn - k ∧ k ≤ sn ∧ vi = .int .i64 k ∧ Hid (sm.length = mn ∧ mn ≤ k) ∧ Hid (wr.heap[g7]? = some (.cells #[.slice xa bn xc, .slice za 32 zc, .slice ma mn mc] 28 (0, 0))) ∧ Hid (Dv wr (.slice xa bn xc) (.slice za 32 zc) (.slice ma mn mc) ⟨b, ky, sm⟩) ∧ Hid (DRight ⟨b, ky, sm⟩) ∧ Hid (Below W.heap.size W wr))
  case atStart => exact ⟨0, [], 0, ta, tc, ya, yc, ma, mc, by omega, by omega, rfl, ⟨rfl, by omega⟩, HROW2, HD2, HRN, HB2⟩
  case round =>
    obtain ⟨k, sm, mn, xa, xc, za, zc, ma', mc', rfl, hk, rfl, HM, HR, HD, HRI, HBR⟩ := hrel
    clear HROW2 HD2 HRN HB2
    by_cases hlt : k < sn
    · have e4 : (k : Int) < sn := by omega
      obtain ⟨s, hs⟩ : ∃ s, ls[k]? = some s := ⟨_, List.getElem?_eq_getElem (by rw [HSN.out]; exact hlt)⟩
      obtain ⟨p0, p1, p2⟩ := HCE.out wr HBR.out k s hs
      have hixk := fun W => HIX.out W k (by omega) (by omega)
      obtain ⟨V1, g10, hV1, hg10, hal, hrow⟩ := new_box wr #[.int .i64 s.t, .int .i64 s.x, .int .i64 s.y] 55
      have HB3 := Lib.hid (TR.out HBR.out hal)
      have HR1 : Hid (V1.heap[g7]? = some (.cells #[.slice xa bn xc, .slice za 32 zc, .slice ma' mn mc'] 28 (0, 0))) := (hal.block g7 (heap_lt HR.out)).trans HR.out
      obtain ⟨y0, y1, y2⟩ := three_at hrow
      obtain ⟨z0, z1, z2⟩ := three_at HR1.out
      have HD1 := Lib.hid (HD.out.below hal)
      have CR := Lib.hid (dvrecord_any _ _ _ ⟨b, ky, sm⟩ s V1 HD1.out HBL.out)
      unfold RecPost at CR
      have HV1 := Lib.hid hV1
      have HG10 := Lib.hid hg10
      have HLT := Lib.hid hlt
      clear hs hal hrow hV1 hg10 hlt HR HD
      go_upto_region 11 with (with_reducible refine wpList_store_new rfl _ _ rfl rfl rfl (by kernel_rfl) (by simp) (by simp [Value.oneCell']) ?_)
      rw [HV1.out, HG10.out]
      clear p0 p1 p2
      go_wp2_with fail
      by_cases hre : recE ⟨b, ky, sm⟩ s = 0
      · obtain ⟨hrd, hri⟩ := rec_ok HRI.out hre
        have HRI2 := Lib.hid hri
        rw [hre, hrd] at CR
        clear hrd hri hre
        refine CR.out.mono ?_
        rintro e w2 ⟨vt, vk, vs, rfl, hd, hb2⟩
        obtain ⟨ta, tc, s1⟩ := hd.tk.shape
        obtain ⟨ya, yc, s2⟩ := hd.ky.shape
        obtain ⟨ma, mc, s3⟩ := hd.sm.shape
        change vt = .slice ta b.length tc at s1
        change vk = .slice ya ky.length yc at s2
        change vs = .slice ma (sm ++ [s]).length mc at s3
        have hml : (sm ++ [s]).length = mn + 1 := by have := HM.out.1; simp; omega
        rw [HBN.out] at s1
        rw [HK32.out] at s2
        rw [hml] at s3
        subst s1 s2 s3
        obtain ⟨V2, g11, hV2, hg11, hal, hrow⟩ := new_box w2 #[.slice ta bn tc, .slice ya 32 yc, .slice ma (mn + 1) mc] 28
        have hb12 := TR.out hb2 hal
        have HB4 := Lib.hid (TR.out HB3.out hb12)
        have HR2 : Hid (V2.heap[g7]? = some (.cells #[.slice xa bn xc, .slice za 32 zc, .slice ma' mn mc'] 28 (0, 0))) := (hb12.block g7 (heap_lt HR1.out)).trans HR1.out
        have HD2 := Lib.hid (hd.below hal)
        have HML := Lib.hid hml
        have HV2 := Lib.hid hV2
        have HG11 := Lib.hid hg11
        obtain ⟨u0, u1, u2⟩ := three_at hrow
        clear hd hb2 hal hrow hV2 hg11 hb12 hml y0 y1 y2 z0 z1 z2 CR HD1
        go_upto_region 12 with (with_reducible refine wpList_store_new rfl _ _ rfl rfl rfl (by kernel_rfl) (by simp) (by simp [Value.oneCell']) ?_)
        rw [HV2.out, HG11.out]
        clear HV2 HG11
        go_upto_region 16 with (with_reducible refine wpList_store_row rfl _ _ rfl rfl rfl HR2.out (by kernel_rfl) (by simp) (by simp [Value.oneCell']) ?_)
        have ho : Only (fun k => k = g7) V2 (V2.setRow g7 #[.slice ta bn tc, .slice ya 32 yc, .slice ma (mn + 1) mc]) := setRow_only _ _ _
        have HROW3 := Lib.hid (setRow_heap V2 g7 _ #[.slice ta bn tc, .slice ya 32 yc, .slice ma (mn + 1) mc] _ _ HR2.out)
        have HD3 := Lib.hid (HD2.out.dev_put HR2.out ho)
        have HB5 : Hid (Below W.heap.size W (V2.setRow g7 #[.slice ta bn tc, .slice ya 32 yc, .slice ma (mn + 1) mc])) := HB4.out.trans (ho.below (fun k hk => by have := HG.out; omega) HB4.out.size)
        obtain ⟨V3, hV3⟩ : ∃ V, V2.setRow g7 #[.slice ta bn tc, .slice ya 32 yc, .slice ma (mn + 1) mc] = V := ⟨_, rfl⟩
        rw [hV3] at HROW3 HD3 HB5 ⊢
        clear ho hV3 u0 u1 u2
        go_wp2
        go_roundg (sn - (k + 1))
        case rel => exact ⟨k + 1, sm ++ [s], mn + 1, ta, tc, ya, yc, ma, mc, rfl, by have := HLT.out; omega, by go_num, ⟨HML.out, by have := HM.out.2; omega⟩, HROW3, HD3, HRI2, HB5⟩
        case measure => have := HLT.out; omega
      · have hrd := rec_no hre
        obtain ⟨Z, hZ⟩ : ∃ z : Int, recE ⟨b, ky, sm⟩ s = z := ⟨_, rfl⟩
        have e6 : (Z == 0) = false := by rw [← hZ]; simpa using hre
        rw [hZ, hrd] at CR
        clear hrd hre hZ
        refine CR.out.mono ?_
        rintro e w2 ⟨vt, vk, vs, rfl, hd, hb2⟩
        obtain ⟨ta, tc, s1⟩ := hd.tk.shape
        obtain ⟨ya, yc, s2⟩ := hd.ky.shape
        obtain ⟨ma, mc, s3⟩ := hd.sm.shape
        change vt = .slice ta 0 tc at s1
        change vk = .slice ya 0 yc at s2
        change vs = .slice ma 0 mc at s3
        subst s1 s2 s3
        obtain ⟨V2, g11, hV2, hg11, hal, hrow⟩ := new_box w2 #[.slice ta 0 tc, .slice ya 0 yc, .slice ma 0 mc] 28
        have hb12 := TR.out hb2 hal
        have HB4 := Lib.hid (TR.out HB3.out hb12)
        have HR2 : Hid (V2.heap[g7]? = some (.cells #[.slice xa bn xc, .slice za 32 zc, .slice ma' mn mc'] 28 (0, 0))) := (hb12.block g7 (heap_lt HR1.out)).trans HR1.out
        have HD2 := Lib.hid (HD1.out.below hb12)
        have HV2 := Lib.hid hV2
        have HG11 := Lib.hid hg11
        obtain ⟨u0, u1, u2⟩ := three_at hrow
        clear hd hb2 hal hrow hV2 hg11 hb12 y0 y1 y2 z0 z1 z2 CR HD1
        go_upto_region 12 with (with_reducible refine wpList_store_new rfl _ _ rfl rfl rfl (by kernel_rfl) (by simp) (by simp [Value.oneCell']) ?_)
        rw [HV2.out, HG11.out]
        clear HV2 HG11
        go_wp2
        go_roundg (sn - (k + 1))
        case rel => exact ⟨k + 1, sm, mn, xa, xc, za, zc, ma', mc', rfl, by have := HLT.out; omega, by go_num, ⟨HM.out.1, by have := HM.out.2; omega⟩, HR2, HD2, HRI, HB4⟩
        case measure => have := HLT.out; omega
    · obtain rfl : k = sn := by omega
      have e4 : ¬ (k : Int) < k := by omega
      clear HIX HCE hlt
      -- Upload
      have HBK : Hid (tbytesOk sm) := tb_ok HRI.out.2.2.1 HRI.out.2.2.2
      have CU := Lib.hid (dvupload_any _ _ _ ⟨b, ky, sm⟩ wr HD.out HBL.out)
      unfold UpPost at CU
      have huo : upO ⟨b, ky, sm⟩ = ⟨3, 0, 0, 0, b, tbytes sm, []⟩ := by unfold upO; rw [if_pos (pB_yes HRI.out)]
      have hue : upE ⟨b, ky, sm⟩ = 0 := by unfold upE; rw [if_pos (pB_yes HRI.out)]
      rw [huo, hue] at CU
      dsimp only [OpD.agg] at CU
      clear huo hue
      obtain ⟨z0, z1, z2⟩ := three_at HR.out
      go_wp2_with fail
      refine CU.out.mono ?_
      rintro e w6 ⟨va, vb, vc, rfl, ⟨ha, hb, hc⟩, hb6⟩
      obtain ⟨a1, c1, s1⟩ := ha.shape
      obtain ⟨a2, c2, s2⟩ := hb.shape
      obtain ⟨a3, c3, s3⟩ := hc.shape
      obtain ⟨tn, htn⟩ : ∃ n, (tbytes sm).length = n := ⟨_, rfl⟩
      rw [HBN.out] at s1
      rw [htn] at s2
      rw [List.length_nil] at s3
      subst s1 s2 s3
      obtain ⟨V6, g13, hV6, hg13, hal, hrow⟩ := new_box w6 #[.int .i64 3, .int .i64 0, .int .i64 0, .int .i64 0, .slice a1 bn c1, .slice a2 tn c2, .slice a3 0 c3] 43
      have hb16 := TR.out hb6 hal
      have HB6 := Lib.hid (TR.out HBR.out hb16)
      have HR6 : Hid (V6.heap[g7]? = some (.cells #[.slice xa bn xc, .slice za 32 zc, .slice ma' mn mc'] 28 (0, 0))) := (hb16.block g7 (heap_lt HR.out)).trans HR.out
      have HD6 := Lib.hid (HD.out.below hb16)
      have HZ7 := Lib.hid (fun (V : World) (hV : Below V6.heap.size V6 V) => three_at ((hV.block g7 (heap_lt HR6.out)).trans HR6.out))
      have HDD : Hid (∀ V, Below V6.heap.size V6 V → Dv V (.slice xa bn xc) (.slice za 32 zc) (.slice ma' mn mc') ⟨b, ky, sm⟩) := fun V hV => HD6.out.below hV
      have HTB := Lib.hid (hb.below hal)
      obtain ⟨m0, m1, m2, m3, m4, m5, m6⟩ := seven_at hrow
      have HV6 := Lib.hid hV6
      have HG13 := Lib.hid hg13
      clear ha hb hc hb6 hb16 hal hrow hV6 hg13 htn z0 z1 z2 CU HR HD
      go_upto_region 18 with (with_reducible refine wpList_store_new rfl _ _ rfl rfl rfl (by kernel_rfl) (by simp) (by simp [Value.oneCell']) ?_)
      rw [HV6.out, HG13.out]
      clear HV6 HG13
      have CT := Lib.hid (ttake_any _ (tbytes sm) V6 HTB.out HBK.out.1)
      unfold TTakePost at CT
      rw [HBK.out.2] at CT
      dsimp only at CT
      go_wp2_with fail
      refine CT.out.mono ?_
      rintro e w7 ⟨v7, rfl, hs7, hb7⟩
      obtain ⟨a7, c7, s7⟩ := hs7.shape
      rw [HM.out.1] at s7
      subst s7
      have HS7 := Lib.hid hs7
      have HB67 := Lib.hid hb7
      clear hs7 hb7 m0 m1 m2 m3 m4 m5 m6 CT
      obtain ⟨z0, z1, z2⟩ := HZ7.out w7 HB67.out
      have CS := Lib.hid (ssame_any _ _ sm w7 HS7.out (HDD.out w7 HB67.out).sm)
      go_wp2_with fail
      refine CS.out.mono ?_
      rintro e w8 ⟨rfl, hb8⟩
      have HB68 := Lib.hid (TR.out HB67.out hb8)
      clear hb8 CS z0 z1 z2
      obtain ⟨z0, z1, z2⟩ := HZ7.out w8 HB68.out
      have CR := Lib.hid (dvright_any _ _ _ ⟨b, ky, sm⟩ w8 (HDD.out w8 HB68.out) HBL.out)
      rw [pB_yes HRI.out] at CR
      go_wp2_with fail
      refine CR.out.mono ?_
      rintro e w9 ⟨rfl, hb9⟩
      have HB69 := Lib.hid (TR.out HB68.out hb9)
      clear hb9 CR z0 z1 z2
      -- Thin
      obtain ⟨t1, t2, t3⟩ := th_of HRI.out
      obtain ⟨t4, t5⟩ := th_twice HRI.out
      dsimp only at t2 t3 t4 t5
      have hthl := (sthin_ok (gap := 7) (by decide) HRI.out.2.2.1).2.2
      obtain ⟨S7, hS7⟩ : ∃ x, sthin 7 sm = x := ⟨_, rfl⟩
      dsimp only at hthl
      rw [hS7] at t2 t3 t4 t5 hthl
      obtain ⟨zn, hzn⟩ : ∃ n, S7.length = n := ⟨_, rfl⟩
      have HZN := Lib.hid hzn
      have e8 : ¬ (mn : Int) < zn := by have := HM.out.1; omega
      have CT1 := Lib.hid (dvthin_any _ _ _ ⟨b, ky, sm⟩ 7 w9 (HDD.out w9 HB69.out) HBL.out)
      have CT2 := Lib.hid (fun v1 v2 v3 V h => dvthin_any v1 v2 v3 ⟨b, ky, S7⟩ 7 V h HBL.out)
      unfold ThinPost at CT1 CT2
      rw [t1, t2] at CT1
      simp only [t4, t5] at CT2
      clear t1 t2 t3 t4 t5 hthl hS7 hzn
      obtain ⟨z0, z1, z2⟩ := HZ7.out w9 HB69.out
      go_wp2_with fail
      refine CT1.out.mono ?_
      rintro e w10 ⟨vt, vk, vs, rfl, hd, hb10⟩
      obtain ⟨ta, tc, s1⟩ := hd.tk.shape
      obtain ⟨ya, yc, s2⟩ := hd.ky.shape
      obtain ⟨ma, mc, s3⟩ := hd.sm.shape
      change vt = .slice ta b.length tc at s1
      change vk = .slice ya ky.length yc at s2
      change vs = .slice ma S7.length mc at s3
      rw [HBN.out] at s1
      rw [HK32.out] at s2
      rw [HZN.out] at s3
      subst s1 s2 s3
      obtain ⟨V10, g17, hV10, hg17, hal, hrow⟩ := new_box w10 #[.slice ta bn tc, .slice ya 32 yc, .slice ma zn mc] 28
      have hb11 := TR.out hb10 hal
      have HB610 := Lib.hid (TR.out HB69.out hb11)
      have HT7 := Lib.hid (fun (V : World) (hV : Below V10.heap.size V10 V) => three_at ((hV.block g17 (heap_lt hrow)).trans hrow))
      have HDT : Hid (∀ V, Below V10.heap.size V10 V → Dv V (.slice ta bn tc) (.slice ya 32 yc) (.slice ma zn mc) ⟨b, ky, S7⟩) := fun V hV => hd.below (TR.out hal hV)
      have HV10 := Lib.hid hV10
      have HG17 := Lib.hid hg17
      obtain ⟨u0, u1, u2⟩ := three_at hrow
      clear hd hb10 hb11 hal hrow hV10 hg17 z0 z1 z2 CT1
      go_upto_region 22 with (with_reducible refine wpList_store_new rfl _ _ rfl rfl rfl (by kernel_rfl) (by simp) (by simp [Value.oneCell']) ?_)
      rw [HV10.out, HG17.out]
      clear HV10 HG17
      go_wp2_with fail
      refine (CT2.out _ _ _ _ (HDT.out V10 (Below.refl _ _))).mono ?_
      rintro e w11 ⟨vt, vk, vs, rfl, hd, hb11⟩
      obtain ⟨ra, rc, s1⟩ := hd.tk.shape
      obtain ⟨qa, qc, s2⟩ := hd.ky.shape
      obtain ⟨na, nc, s3⟩ := hd.sm.shape
      change vt = .slice ra b.length rc at s1
      change vk = .slice qa ky.length qc at s2
      change vs = .slice na S7.length nc at s3
      rw [HBN.out] at s1
      rw [HK32.out] at s2
      rw [HZN.out] at s3
      subst s1 s2 s3
      obtain ⟨V11, g19, hV11, hg19, hal, hrow⟩ := new_box w11 #[.slice ra bn rc, .slice qa 32 qc, .slice na zn nc] 28
      have hb12 := TR.out hb11 hal
      have HB1011 := Lib.hid hb12
      have HB611 := Lib.hid (TR.out HB610.out hb12)
      have HDU := Lib.hid (hd.below hal)
      have HV11 := Lib.hid hV11
      have HG19 := Lib.hid hg19
      obtain ⟨r0, r1, r2⟩ := three_at hrow
      clear hd hb11 hb12 hal hrow hV11 hg19 u0 u1 u2 CT2
      go_upto_region 23 with (with_reducible refine wpList_store_new rfl _ _ rfl rfl rfl (by kernel_rfl) (by simp) (by simp [Value.oneCell']) ?_)
      rw [HV11.out, HG19.out]
      clear HV11 HG19
      obtain ⟨u0, u1, u2⟩ := HT7.out V11 HB1011.out
      have CS := Lib.hid (dvsame_yes _ _ _ _ _ _ ⟨b, ky, S7⟩ V11 (HDT.out V11 HB1011.out) HDU.out)
      go_wp2_with fail
      refine CS.out.mono ?_
      rintro e w12 ⟨rfl, hb12⟩
      have HB612 := Lib.hid (TR.out HB611.out hb12)
      obtain ⟨v0, v1, v2⟩ := HT7.out w12 (TR.out HB1011.out hb12)
      obtain ⟨z0, z1, z2⟩ := HZ7.out w12 HB612.out
      have HBW := Lib.hid (TR.out HB6.out HB612.out)
      clear hb12 u0 u1 u2 r0 r1 r2 CS
      have CO := Lib.hid (uopen_any (.slice ba bn bc) b w12 (HBB.out w12 HBW.out) HBL.out)
      unfold OpenPost at CO
      have HOE : Hid ((topen b).2.2 = 0) := HRI.out.1
      rw [HOE.out] at CO
      have HCK := Lib.hid (fun q hq => check_taken (l := l) (b := b) (q := q) HCE0.out hq)
      rw [HKY.out] at HCK
      have HWN : Hid (0 ≤ (topen b).1.iss ∧ (topen b).1.iss ≤ (topen b).1.til ∧ (topen b).1.til ≤ 1099511627776) := by
        obtain ⟨t, k, hto, -, hm, -⟩ := cdev_good HCE0.out
        rw [hto]
        have := tok_win hm
        exact ⟨this.1, this.2.1, this.2.2.1⟩
      obtain ⟨x, hx⟩ : ∃ x, (topen b).1 = x := ⟨_, rfl⟩
      rw [hx] at CO HCK HWN
      clear hx
      unfold Tok.row at CO
      go_wp2_with fail
      refine CO.out.mono ?_
      rintro e w13 ⟨v13, rfl, -, hb13⟩
      obtain ⟨V13, g21, hV13, hg21, hal, hrow⟩ := new_box w13 #[.int .i64 x.trip, .int .i64 x.acct, .int .i64 x.stop, .int .i64 x.iss, .int .i64 x.til, .int .i64 x.ep] 62
      have hb14 := TR.out hb13 hal
      have HB613 := Lib.hid (TR.out HB612.out hb14)
      have HTA : Hid (∀ V, Below V13.heap.size V13 V → TAt V g21 x) := fun V hV => ⟨(hV.block g21 (heap_lt hrow)).trans hrow⟩
      have HV13 := Lib.hid hV13
      have HG21 := Lib.hid hg21
      clear hb13 hb14 hal hrow hV13 hg21 v0 v1 v2 z0 z1 z2 CO
      go_upto_region 26 with (with_reducible refine wpList_store_new rfl _ _ rfl rfl rfl (by kernel_rfl) (by simp) (by simp [Value.oneCell']) ?_)
      rw [HV13.out, HG21.out]
      clear HV13 HG21
      have hmk : ∀ W : World, (Instr.makeSlice 25 (.int .i64 16) (.int .i64 16)).run Tryz.prog W = .ok (.slice (some ⟨W.heap.size, 0, none⟩) 16 16) (W.alloc (.cells (rowb 16 fun _ => 0) 5)) := fun W => run_make_rowb elB 16 16 (Nat.le_refl _) (by decide) (by decide) W
      go_upto_region 27 with fail
      obtain ⟨V14, g24, hV14, hg24, hal, hrow⟩ := new_box V13 (rowb 16 fun _ => 0) 5
      rw [hV14, hg24]
      have hbq := bs_rowb hrow 0 16 (by omega) (by decide)
      obtain ⟨qs, hqs⟩ : ∃ l : List UInt8, (List.range 16).map (fun j => (fun _ => (0 : UInt8)) (0 + j)) = l := ⟨_, rfl⟩
      rw [hqs] at hbq
      have HQL : Hid (qs.length = 16) := by show _ = _; rw [← hqs]; simp
      have HQ : Hid (∀ V, Below V14.heap.size V14 V → Bs V (.slice (some ⟨g24, 0, none⟩) 16 16) qs) := fun V hV => hbq.below hV
      have HB614 := Lib.hid (TR.out HB613.out hal)
      have HB1314 := Lib.hid hal
      clear hmk hV14 hg24 hal hrow hbq hqs
      have HCK1 := Lib.hid (HCK.out qs HQL.out)
      have CAN := Lib.hid (dvanswer_any (.slice xa bn xc) (.slice za 32 zc) (.slice ma' mn mc') ⟨b, ky, sm⟩ (.slice (some ⟨g24, 0, none⟩) 16 16) qs x.iss V14 (HDD.out V14 HB614.out) HBL.out (HQ.out V14 (Below.refl _ _)) (HTT.out V14 (TR.out HB6.out HB614.out)))
      unfold AnsPost at CAN
      have hae : ansE ⟨b, ky, sm⟩ qs x.iss = 0 := by unfold ansE; rw [if_pos ⟨pB_yes HRI.out, HCK1.out.1⟩]
      have hab : ansB ⟨b, ky, sm⟩ qs x.iss = cans ky qs x.iss := by unfold ansB; rw [if_pos ⟨pB_yes HRI.out, HCK1.out.1⟩]
      rw [hae, hab] at CAN
      clear hae hab HCK
      obtain ⟨A, hA⟩ : ∃ l, cans ky qs x.iss = l := ⟨_, rfl⟩
      have hal := cans_len100 ky qs HCK1.out.1
      rw [hA] at CAN hal
      have HC2 := Lib.hid HCK1.out.2
      rw [hA] at HC2
      have HAL := Lib.hid hal
      obtain ⟨an, han⟩ : ∃ n, A.length = n := ⟨_, rfl⟩
      have HAN := Lib.hid han
      clear hA hal han HCK1
      obtain ⟨z0, z1, z2⟩ := HZ7.out V14 HB614.out
      obtain ⟨c1, c2, c3, c4, c5, c6⟩ := (HTA.out V14 HB1314.out).cells
      go_wp2_with fail
      refine CAN.out.mono ?_
      rintro e w15 ⟨v15, rfl, hv15, hb15⟩
      obtain ⟨a5, k5, s5⟩ := hv15.shape
      rw [HAN.out] at s5
      subst s5
      have HB615 := Lib.hid (TR.out HB614.out hb15)
      have HB1315 := Lib.hid (TR.out HB1314.out hb15)
      have CC := Lib.hid (chcheck_anyL keep (.slice a n c) l (.slice ba bn bc) (.slice (some ⟨g24, 0, none⟩) 16 16) (.slice a5 an k5) b qs A x.til (x.til - x.iss) w15 (HKK.out w15 (TR.out HB6.out HB615.out)) (HBB.out w15 (TR.out HB6.out HB615.out)) (HQ.out w15 hb15) hv15 HBL.out (by have := HAL.out; omega) HSM.out (by have := HWN.out; unfold W64; omega) (HTT.out w15 (TR.out HB6.out HB615.out)))
      unfold CheckPost at CC
      rw [HC2.out] at CC
      unfold Tok.row at CC
      dsimp only at CC
      clear hv15 hb15 z0 z1 z2 c1 c2 c3 c4 c5 c6 CAN
      obtain ⟨x0, x1⟩ := HRA.out w15 (TR.out HB6.out HB615.out)
      obtain ⟨c1, c2, c3, c4, c5, c6⟩ := (HTA.out w15 HB1315.out).cells
      have e9 : IntKind.i64.wrap (x.til - x.iss) = x.til - x.iss := IntWalk.i64_in _ (by have := HWN.out; omega)
      go_wp2_with fail
      refine CC.out.mono ?_
      rintro e w16 ⟨rfl, hb16⟩
      obtain ⟨V16, g27, hV16, hg27, hal, hrow⟩ := new_box w16 #[.int .i64 x.trip, .int .i64 x.acct, .int .i64 x.stop, .int .i64 x.iss, .int .i64 x.til, .int .i64 x.ep] 62
      have hb17 := TR.out hb16 hal
      have HBF := Lib.hid (TR.out HB0.out (TR.out HB6.out (TR.out HB615.out hb17)))
      obtain ⟨d1, d2, d3, d4, d5, d6⟩ := (show TAt V16 g27 x from ⟨hrow⟩).cells
      have h21 := (HTA.out V16 (TR.out HB1315.out hb17)).cells
      have HV16 := Lib.hid hV16
      have HG27 := Lib.hid hg27
      clear hb16 hb17 hal hrow hV16 hg27 x0 x1 c1 c2 c3 c4 c5 c6 CC
      obtain ⟨c1, c2, c3, c4, c5, c6⟩ := h21
      go_upto_region 29 with (with_reducible refine wpList_store_new rfl _ _ rfl rfl rfl (by kernel_rfl) (by simp) (by simp [Value.oneCell']) ?_)
      rw [HV16.out, HG27.out]
      clear HV16 HG27
      have hEQ : ∀ V : World, (Op.equalIn 10000 62 (.agg #[.int .i64 x.trip, .int .i64 x.acct, .int .i64 x.stop, .int .i64 x.iss, .int .i64 x.til, .int .i64 x.ep]) (.agg #[.int .i64 x.trip, .int .i64 x.acct, .int .i64 x.stop, .int .i64 x.iss, .int .i64 x.til, .int .i64 x.ep])).run Tryz.prog V = .ok true V := eq_tok x.trip x.acct x.stop x.iss x.til x.ep
      go_wp2
      go_ret
      exact ⟨rfl, by first | exact HBF.out | (rw [← hqq]; exact HBF.out)⟩
end Go.Proofs.YtjnbdeopoohnmaaGreatDoor
/- Layer 48 (device): DeviceTaken, as its row wants it: the keys' lengths are within the form's reach. -/
namespace Go.Proofs.YtjnbdeopoohnmaaGreatDoor
open Go.RowKit Go.Sort Go.ChangeShapes Go.WideShapes Go.ChangeAt Go.Deep Go.Joins

section
variable {H : Type} {enc : TypeId × Value → H} {P : Program} {w : World}
/-- a datum within the form's reach -/
def Reaches (P : Program) (t : TypeId) (d : DataW H) : Prop := ∀ n ∈ d.weights P t, n ≤ reachBytes
theorem weightsAll_mem {e : TypeId} : ∀ {L : List (DataW H)} {d : DataW H}, d ∈ L → ∀ n ∈ d.weights P e, n ∈ DataW.weightsAll P e L
  | x :: L, d, hd, n, hn => by
    simp only [DataW.weightsAll, List.mem_append]
    rcases List.mem_cons.1 hd with rfl | h
    · exact Or.inl hn
    · exact Or.inr (weightsAll_mem h n hn)
  | [], _, hd, _, _ => by simp at hd
theorem Reaches.slice {t e : TypeId} {elems spare : List (DataW H)} (ht : P.underlying t = some (.slice e)) (h : Reaches P t (.slice elems spare)) : (elems.length + spare.length) * P.bytesOf e ≤ reachBytes ∧ ∀ d ∈ elems, Reaches P e d := by
  unfold Reaches at h
  simp only [DataW.weights, ht] at h
  exact ⟨h _ (by simp), fun d hd n hn => h n (by simp [weightsAll_mem hd n hn])⟩
theorem Reaches.two {t : TypeId} {f0 f1 : Field} {d0 d1 : DataW H} (ht : P.underlying t = some (.struct #[f0, f1])) (h : Reaches P t (.agg [d0, d1])) : Reaches P f0.type d0 ∧ Reaches P f1.type d1 := by
  unfold Reaches at h
  simp only [DataW.weights, ht, List.map_cons, List.map_nil, DataW.weightsEach] at h
  exact ⟨fun n hn => h n (by simp [hn]), fun n hn => h n (by simp [hn])⟩
theorem rows_trodW {t e : TypeId} {s : Nat} (ht : P.underlying t = some (.slice e)) (hs : P.cellsOf e = s) (h0 : 0 < s) {m0 : Nat} {cs : List Value} {y0 : DataW H × List MemPlace}
    (hf : DataW.trod enc P w 0 (fun _ => true) true m0 t cs = some y0) (hw : Reaches P t y0.1) :
    ∃ (v : Value) (n m : Nat) (C : Nat → List Value), cs = [v] ∧ Rd w s v n ((List.range n).flatMap C) ∧ ∀ i, i < n → (C i).length = s ∧ ∃ y, DataW.trod enc P w 0 (fun _ => true) true m e (C i) = some y ∧ Reaches P e y.1 := by
  rcases open_slice ht hf with ⟨hcs, _⟩ | ⟨a, len, cap, m, n, D, Pl, hcs, _, hl, hm, hmm, hy0, hx⟩
  · exact ⟨_, 0, 0, fun _ => [], hcs, by simpa using Rd.nil w s, fun i hi => by omega⟩
  · have hml : len ≤ m := by rw [hmm]; split <;> omega
    have hre : ∀ i, i < len → Reaches P e (D i) := by
      rw [hy0] at hw
      intro i hi
      exact (hw.slice ht).2 _ (List.mem_map.2 ⟨i, by simpa using hi, rfl⟩)
    rw [hs] at hx
    obtain ⟨C, hC⟩ := choose_lt (α := List Value) (p := fun i cs' => w.cells? 0 (a.add (i * s)) s = some cs' ∧ DataW.trod enc P w 0 (fun _ => true) true n e cs' = some (D i, Pl i)) (n := len) (fun i hi => hx i (by omega))
    have hCl : ∀ i, i < len → (C i).length = s := fun i hi => (World.cells?_some (hC i hi).1).2.1
    refine ⟨_, len, n, C, hcs, ?_, fun i hi => ⟨hCl i hi, _, (hC i hi).2, hre i hi⟩⟩
    refine ⟨flat_len C s len hCl, some a, cap, rfl, hl, hm, by simp, ?_⟩
    by_cases hz : len = 0
    · exact .inl hz
    · right
      have hcell : ∀ i k, i < len → k < s → w.cell? (a.add (i * s + k)) = (C i)[k]? := by
        intro i k hi hk
        have := (World.cells?_some (hC i hi).1).2.2 k hk
        rwa [Addr.add_add] at this
      obtain ⟨b, off, spot⟩ := a
      have h00 := hcell 0 0 (by omega) h0
      have hl0 := hCl 0 (by omega)
      rw [List.getElem?_eq_getElem (by omega)] at h00
      have hspot : spot = none := by simpa [Addr.add] using World.cell?_spot h00
      subst hspot
      refine ⟨b, off, rfl, by have := World.block_lt_of_cell? w _ h00; rwa [Addr.add_lit] at this, fun j u hu => ?_⟩
      have hj : j < len * s := by
        have := (List.getElem?_eq_some_iff.1 hu).1
        rwa [flat_len C s len hCl] at this
      have hdiv : j / s < len := by rw [Nat.div_lt_iff_lt_mul h0]; exact hj
      have hmod : j % s < s := Nat.mod_lt _ h0
      have hjj : j = j / s * s + j % s := by rw [Nat.mul_comm]; exact (Nat.div_add_mod j s).symm
      rw [hjj, flat_get C s len hCl _ _ hdiv hmod] at hu
      have := hcell _ _ hdiv hmod
      rw [Addr.add_lit, ← hjj] at this
      rw [this, hu]
theorem gs_trodW {α : Type} [Inhabited α] {cs : α → List Value} {Q : α → Prop} {t e : TypeId} {s : Nat} (ht : P.underlying t = some (.slice e)) (hs : P.cellsOf e = s) (h0 : 0 < s)
    (hel : ∀ (m : Nat) (c : List Value) (y : DataW H × List MemPlace), DataW.trod enc P w 0 (fun _ => true) true m e c = some y → Reaches P e y.1 → ∃ x : α, c = cs x ∧ Q x) {m0 : Nat} {c0 : List Value} {y0 : DataW H × List MemPlace}
    (hf : DataW.trod enc P w 0 (fun _ => true) true m0 t c0 = some y0) (hw : Reaches P t y0.1) : ∃ (v : Value) (l : List α), c0 = [v] ∧ Gs s cs w v l ∧ ∀ x ∈ l, Q x := by
  obtain ⟨v, n, m, C, hv, hrd, hC⟩ := rows_trodW ht hs h0 hf hw
  have key : ∀ i, i < n → ∃ x : α, C i = cs x ∧ Q x := by
    intro i hi
    obtain ⟨_, y, hy, hr⟩ := hC i hi
    exact hel _ _ _ hy hr
  obtain ⟨S, hS⟩ := choose_lt key
  refine ⟨v, (List.range n).map S, hv, ?_, ?_⟩
  · have e : (List.range n).flatMap C = gcells cs ((List.range n).map S) := by
      unfold gcells
      rw [List.flatMap_map]
      have : ∀ (L : List Nat), (∀ i ∈ L, i < n) → L.flatMap C = L.flatMap fun i => cs (S i) := by
        intro L
        induction L with
        | nil => intro _; rfl
        | cons i L ih =>
          intro h
          simp only [List.flatMap_cons]
          rw [(hS i (h i (by simp))).1, ih fun j hj => h j (by simp [hj])]
      exact this _ fun i hi => by simpa using hi
    unfold Gs
    rw [← e]
    simpa using hrd
  · intro s hs
    obtain ⟨i, hi, rfl⟩ := List.mem_map.1 hs
    exact (hS i (by simpa using hi)).2
theorem bytes_trodW {t e : TypeId} (ht : P.underlying t = some (.slice e)) (he : P.underlying e = some (.int .u8)) (hcells : P.cellsOf e = 1) (hb : P.bytesOf e = 1) {m : Nat} {cs : List Value} {y : DataW H × List MemPlace}
    (hf : DataW.trod enc P w 0 (fun _ => true) true m t cs = some y) (hw : Reaches P t y.1) : ∃ v l, cs = [v] ∧ Bs w v l ∧ l.length ≤ reachBytes := by
  rcases open_ints ht he hcells hf with ⟨hcs, _⟩ | ⟨x, l, c, zs, hcs, _, hl, hm, hz, hy, hcell, hwz⟩
  · exact ⟨_, [], hcs, Rd.nil _ _, by simp⟩
  · obtain ⟨l', _, h⟩ := bs_of_row hl hm (by simpa using hz) rfl hcell hwz
    refine ⟨_, l', hcs, h, ?_⟩
    rw [hy] at hw
    have h1 := (hw.slice ht).1
    have h2 := h.len_eq.1
    rw [hb] at h1
    simp only [lits, List.length_map, List.length_take, List.length_drop] at h1
    have h3 : l ≤ zs.length := by rw [hz]; split <;> omega
    omega
end

set_option maxRecDepth 100000 in
theorem key_trodW {H : Type} {enc : TypeId × Value → H} {w : World} (m : Nat) (c : List Value) (y : DataW H × List MemPlace) (h : DataW.trod enc Tryz.prog w 0 (fun _ => true) true m 34 c = some y) (hr : Reaches Tryz.prog 34 y.1) :
    ∃ x : RK, c = x.cells ∧ (Bs w x.v x.b ∧ KeyWf x) ∧ x.b.length ≤ reachBytes := by
  obtain ⟨y0, y1, n, hy, hl, e0, e1⟩ := trod_struct2 Tryz.underlying34 h
  rw [hy] at hr
  have h2 : c.length = 2 := hl.trans (by kernel_rfl)
  have hc0 : Tryz.prog.cellsOf 3 = 1 := by kernel_rfl
  have hc1 : Tryz.prog.cellsOf 25 = 1 := by kernel_rfl
  have hr1 := (hr.two Tryz.underlying34).2
  match c, h2 with
  | [a, b], _ =>
    simp only at e0 e1 hr1
    rw [hc0] at e0
    rw [hc1] at e1
    obtain ⟨z0, g0, _, k0⟩ := DataW.trod_int Tryz.underlying3 e0
    obtain ⟨v, l, g1, k1, k2⟩ := bytes_trodW Tryz.underlying25 Tryz.underlying5 (by kernel_rfl) (by kernel_rfl) e1 hr1
    simp at g0 g1
    subst g0 g1
    obtain ⟨va, vc, rfl⟩ := k1.shape
    exact ⟨⟨z0, va, vc, l⟩, rfl, ⟨k1, wf_i64 k0⟩, k2⟩

set_option maxRecDepth 100000 in
theorem view_ringW {H : Type} {enc : TypeId × Value → H} {w : World} {b0 : Nat} {r : Reach} {v : Value} {d : DataW H} {ps : List MemPlace}
    (hr : Reaches Tryz.prog 24 d) (hval : Value.okWide Tryz.prog w r b0 24 v) (hd : DataW.Trod enc Tryz.prog w 0 (fun _ => true) true 24 v d ps) : ∃ x : RingArg, v = .agg #[.int .i64 x.keep, x.v] ∧ RingIs w x ∧ ∀ k ∈ x.l, k.b.length ≤ 140737488351232 := by
  obtain ⟨cs, rfl, hsz⟩ := okWide_struct Tryz.underlying24 hval
  have h4 : cs.size = 2 := hsz.trans (by kernel_rfl)
  obtain ⟨m, hy⟩ := hd
  obtain ⟨y0, y1, k, hyy, hl', e0, e1⟩ := trod_struct2 Tryz.underlying24 hy
  obtain rfl : d = .agg [y0.1, y1.1] := congrArg Prod.fst hyy
  have hr1 := (hr.two Tryz.underlying24).2
  obtain ⟨l⟩ := cs
  match l, h4 with
  | [a, b], _ =>
    have hc0 : Tryz.prog.cellsOf 3 = 1 := by kernel_rfl
    have hc1 : Tryz.prog.cellsOf 22 = 1 := by kernel_rfl
    simp only [Value.cells] at e0 e1 hr1
    rw [hc0] at e0
    rw [hc1] at e1
    obtain ⟨z0, g0, _, k0⟩ := DataW.trod_int Tryz.underlying3 e0
    obtain ⟨v, l, g1, hg, hq⟩ := gs_trodW (cs := RK.cells) (Q := fun x => (Bs w x.v x.b ∧ KeyWf x) ∧ x.b.length ≤ reachBytes) (s := 2) Tryz.underlying22 (by kernel_rfl) (by decide) (fun m c y h hr => key_trodW m c y h hr) e1 hr1
    simp at g0 g1
    subst g0 g1
    exact ⟨⟨z0, b, l⟩, rfl, ⟨⟨hg, fun k hk => (hq k hk).1.1, fun k hk => (hq k hk).1.2⟩, wf_i64 k0⟩, fun k hk => (hq k hk).2⟩

theorem devicetaken_row (v0 : Value) (x0 : RingArg) (v1 : Value) (b : List UInt8) (v2 : Value) (ls : List Smp) (w : World) (h0 : v0 = .agg #[.int .i64 x0.keep, x0.v] ∧ RingIs w x0 ∧ ∀ k ∈ x0.l, k.b.length ≤ 140737488351232) (h1 : Bs w v1 b) (h2 : Ss w v2 ls) (hT : Tabbed w) :
    Calls Tryz.prog 4 #[v0, v1, v2] w fun e w' => e = .returned (.bool true) ∧ Below w.heap.size w w' := by
  obtain ⟨rfl, hr, hk⟩ := h0
  exact devicetaken_walk _ _ _ _ _ _ _ w hr.1 h1 h2 hk hT
end Go.Proofs.YtjnbdeopoohnmaaGreatDoor
