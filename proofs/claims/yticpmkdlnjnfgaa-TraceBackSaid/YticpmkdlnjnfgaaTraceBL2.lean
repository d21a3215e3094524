/- The walk of the statement TraceBack. -/
import Derived.Test.YticpmkdlnjnfgaaTraceR
import Derived.Test.YticpmkdlnjnfgaaTraceA
import Derived.Test.YticpmkdlnjnfgaaTrace3
import Derived.Test.YticpmkdlnjnfgaaFBspec
import Derived.Test.YticpmkdlnjnfgaaSamp8
import Derived.Deep.RegionHeld3
namespace Go.Proofs.Yticpmkdlnjnfgaa
open Go.RowKit Go.Sort

theorem slen_acc (l : List Smp) : ∀ acc, slen acc l = acc + slen 0 l := by
  induction l with
  | nil => intro acc; simp [slen]
  | cons a r ih =>
    intro acc
    cases r with
    | nil => simp [slen]
    | cons b r => rw [slen, ih, slen, ih (0 + sfar a b)]; omega

theorem slen_split (l : List Smp) : ∀ k, k < l.length → slen 0 (l.take (k + 1)) + slen 0 (l.drop k) = slen 0 l := by
  induction l with
  | nil => intro k h; simp at h
  | cons a r ih =>
    intro k h
    cases k with
    | zero => simp [slen]
    | succ k =>
      cases r with
      | nil => simp at h
      | cons b r =>
        have h1 := ih k (by simpa using h)
        simp only [List.take_succ_cons, List.drop_succ_cons] at h1 ⊢
        rw [slen, slen, slen_acc _ (0 + sfar a b), slen_acc _ (0 + sfar a b)]
        omega

theorem srise {l : List Smp} (h : SRight l) : ∀ (j i : Nat) (s p : Smp), l[i]? = some s → l[i + j]? = some p → s.t ≤ p.t := by
  intro j
  induction j with
  | zero => intro i s p h1 h2; rw [Nat.add_zero, h1] at h2; cases h2; omega
  | succ j ih =>
    intro i s p h1 h2
    have hlt := (List.getElem?_eq_some_iff.1 h2).1
    have h3 : l[i + j]? = some l[i + j] := List.getElem?_eq_getElem (by omega)
    have h4 := (h (i + (j + 1)) p h2).2 (by omega) l[i + j] (by rw [show i + (j + 1) - 1 = i + j by omega]; exact h3)
    have := ih i s _ h1 h3
    omega

theorem sgap_le (l : List Smp) : ∀ (acc : Int) (a z : Smp), SRight l → l[0]? = some a → l[l.length - 1]? = some z → sgap acc l ≤ max acc (z.t - a.t) := by
  induction l with
  | nil => intro acc a z _ h; simp at h
  | cons x r ih =>
    intro acc a z h h0 hz
    simp at h0
    subst h0
    cases r with
    | nil => simp [sgap]; omega
    | cons b r =>
      have h1 := ih (max acc (b.t - x.t)) b z h.tail rfl (by simpa using hz)
      have hb := srise h 1 0 x b rfl rfl
      have hbz := srise h.tail (r.length) 0 b z rfl (by simpa using hz)
      rw [sgap]
      omega

theorem sright_take' {l : List Smp} (h : SRight l) (k : Nat) : SRight (l.take k) := by
  intro i s hi
  rw [List.getElem?_take] at hi
  split at hi
  · refine ⟨(h i s hi).1, fun h0 p hp => (h i s hi).2 h0 p ?_⟩
    rw [List.getElem?_take] at hp
    split at hp
    · exact hp
    · cases hp
  · cases hi
theorem sright_drop {l : List Smp} (h : SRight l) (k : Nat) : SRight (l.drop k) := by
  intro i s hi
  rw [List.getElem?_drop] at hi
  refine ⟨(h _ s hi).1, fun h0 p hp => (h _ s hi).2 (by omega) p ?_⟩
  rw [List.getElem?_drop] at hp
  rw [show k + i - 1 = k + (i - 1) by omega]
  exact hp

theorem sel_all {l : List Smp} (h : SRight l) {a z : Smp} (h0 : l[0]? = some a) (hz : l[l.length - 1]? = some z) : l.filter (sel a.t z.t) = l := by
  rw [List.filter_eq_self]
  intro s hs
  obtain ⟨i, hi, rfl⟩ := List.getElem_of_mem hs
  have h1 := srise h i 0 a l[i] h0 (by rw [Nat.zero_add]; exact List.getElem?_eq_getElem hi)
  have h2 := srise h (l.length - 1 - i) i l[i] z (List.getElem?_eq_getElem hi) (by rw [show i + (l.length - 1 - i) = l.length - 1 by omega]; exact hz)
  unfold sel
  simp
  omega

theorem slen_range (l : List Smp) (h : SRight l) : 0 ≤ slen 0 l ∧ slen 0 l ≤ 67108864 * l.length := by
  have key : ∀ (l : List Smp), (∀ s ∈ l, SMay s) → 0 ≤ slen 0 l ∧ slen 0 l ≤ 67108864 * l.length := by
    intro l
    induction l with
    | nil => intro _; simp [slen]
    | cons a r ih =>
      intro h
      cases r with
      | nil => simp [slen]
      | cons b r =>
        have h1 := ih fun s hs => h s (by simp [hs])
        have h2 := sfar_range a b (h a (by simp)) (h b (by simp))
        rw [slen, slen_acc]
        simp only [List.length_cons] at h1 ⊢
        omega
  exact key l fun s hs => by
    obtain ⟨i, hi, rfl⟩ := List.getElem_of_mem hs
    exact (h i _ (List.getElem?_eq_getElem hi)).1

theorem ttake_put (l : List Smp) (h : SRight l) (hl : l.length ≤ 2048) : ttake (tbytes l) = (l, 0) := by
  have hsl := sputs_bound h (by omega)
  have hvl := vput_len10 l.length (by omega)
  have h1 := fwhole_frame 1 (vput l.length ++ sputs szero l) (by simp; omega)
  have h2 := rnum_vput (most := 2048) (l := vput l.length ++ sputs szero l) (r := sputs szero l) (pos := 0) (n := l.length) (by simp) (by omega) (by omega)
  have h3 := stake_put l [] h hl
  rw [List.append_nil] at h3
  have hd : (vput l.length ++ sputs szero l).drop (0 + (vput l.length).length) = sputs szero l := by simp
  rw [← hd] at h3
  unfold tbytes
  rw [ttake_eq h1 h2 h3, if_neg (by simp), if_neg (by simp), if_neg (by simp), if_neg]
  rw [hd]
  simp

set_option maxRecDepth 100000 in
set_option maxHeartbeats 3200000 in
theorem traceBack_walk (va : Value) (l : List Smp) (K : Int) (w : World) (ha : Ss w va l) (hK : 0 ≤ K ∧ K < 65536) :
    Calls Try.prog 12 #[va, .int .u16 K] w fun e w' => e = .returned (.bool true) ∧ Below w.heap.size w w' := by
  obtain ⟨n, hn⟩ : ∃ n, l.length = n := ⟨_, rfl⟩
  obtain ⟨a, ca, b1, o1, hs, ha1, ha2, ha3, ha4, ha5⟩ := Ss.open_n elS ha n hn
  subst hs
  have HN := Lib.hid hn
  by_cases hl : n ≤ 500
  · have dl : decide ((500 : Int) < n) = false := by simp; omega
    clear hn
    go_enter Try.func12, Try.ntmps12
    go_wp2_with fail
    refine (awake6 _).mono ?_
    rintro e w1 ⟨rfl, hb1⟩
    go_wp2_with fail
    refine (tput_any _ l _ (ha.below hb1)).mono ?_
    rintro e w2 h2
    unfold TPutPost at h2
    rw [if_neg (by rw [HN.out]; omega)] at h2
    rcases h2 with ⟨hR, v2, rfl, ho2, hb2⟩ | ⟨hR, rfl, hb2⟩
    · have hw2 := hb1.trans (hb2.mono hb1.size)
      have htt := ttake_put l hR (by rw [HN.out]; omega)
      have hfl := fframe_len 1 (vput l.length ++ sputs szero l)
      have hsl := sputs_bound hR (by rw [HN.out]; omega)
      have hvl := vput_len10 l.length (by rw [HN.out]; omega)
      have hvl2 := vput_len10 (vput l.length ++ sputs szero l).length (by simp; omega)
      have hbl : (tbytes l).length ≤ 1048576 := by
        have e : (tbytes l).length = (fframe 1 (vput l.length ++ sputs szero l)).length := rfl
        have hcl : (vput l.length ++ sputs szero l).length ≤ 61450 := by simp; omega
        rw [e]
        omega
      have hT := fun w h => ttake_any v2 (tbytes l) w h hbl
      unfold TTakePost at hT
      rw [htt] at hT
      simp only at hT
      have HT := Lib.hid hT
      have HR := Lib.hid hR
      clear hT htt hR hfl hsl hvl hvl2 hbl
      obtain ⟨a2, c2, hs⟩ := ho2.shape
      subst hs
      go_wp2_with fail
      refine (HT.out _ ho2.bs).mono ?_
      rintro e w3 ⟨v3, rfl, h3, hb3⟩
      have hw3 := hw2.trans (hb3.mono hw2.size)
      go_wp2_with fail
      refine (ssame_any _ _ _ _ (ha.below hw3) h3).mono ?_
      rintro e w4 ⟨rfl, hb4⟩
      have hw4 := hw3.trans (hb4.mono hw3.size)
      clear h3 ho2
      by_cases hn0 : n = 0
      · have hz : ((n : Int) == 0) = true := by simp; omega
        have hl0 : l = [] := List.eq_nil_of_length_eq_zero (by rw [HN.out]; exact hn0)
        have HL0 := Lib.hid hl0
        clear hn0 hl0
        have C1 := length_any _ l _ (ha.below hw4) HR.out (by rw [HN.out]; omega)
        have C2 := fun w h => gap_any (.slice a n ca) l w h HR.out (by rw [HN.out]; omega)
        have e1 : slen 0 l = 0 := by rw [HL0.out]; rfl
        have e2 : sgap 0 l = 0 := by rw [HL0.out]; rfl
        rw [e1] at C1
        rw [e2] at C2
        have HC1 := Lib.hid C1
        have HC2 := Lib.hid C2
        clear C1 C2 e1 e2
        go_wp2_with fail
        refine HC1.out.mono ?_
        rintro e w5 ⟨rfl, hb5⟩
        have hw5 := hw4.trans (hb5.mono hw4.size)
        go_wp2_with fail
        refine (HC2.out _ (ha.below hw5)).mono ?_
        rintro e w6 ⟨rfl, hb6⟩
        go_wp2
        go_ret
        exact ⟨rfl, hw5.trans (hb6.mono hw5.size)⟩
      · have hz : ((n : Int) == 0) = false := by simp; omega
        have hnn : (n : Int) ≠ 0 := by omega
        obtain ⟨k, hk⟩ : ∃ k : Nat, K % (n : Int) = k := ⟨(K % (n : Int)).toNat, by have := Int.emod_nonneg K hnn; omega⟩
        have hkn : k < n := by have := Int.emod_lt_of_pos K (show (0 : Int) < n by omega); omega
        have ha4' := ha.below hw4
        obtain ⟨q, hq⟩ : ∃ q, q = k + 1 := ⟨_, rfl⟩
        obtain ⟨m, hm⟩ : ∃ m, m = n - 1 := ⟨_, rfl⟩
        obtain ⟨Y1, hY1, hYs1⟩ := Ss.upto elS ha4' q (by rw [HN.out]; omega)
        obtain ⟨Y2, hY2, hYs2⟩ := Ss.from elS ha4' k (by rw [HN.out]; omega)
        obtain ⟨s0, hs0⟩ : ∃ s, l[0]? = some s := ⟨_, List.getElem?_eq_getElem (by rw [HN.out]; omega)⟩
        obtain ⟨s1, hs1⟩ : ∃ s, l[m]? = some s := ⟨_, List.getElem?_eq_getElem (by rw [HN.out]; omega)⟩
        have p0 := (ha5 0 s0 hs0).1
        have p1 := (ha5 m s1 hs1).1
        have hbb := ha4 0 (by omega)
        rw [← hw4.cell (by exact hbb)] at p0 p1
        have hs1' : l[l.length - 1]? = some s1 := by rw [HN.out, ← hm]; exact hs1
        have hrange := slen_range l HR.out
        have hsplit := slen_split l k (by rw [HN.out]; omega)
        rw [← hq] at hsplit
        have hgap := sgap_le l 0 s0 s1 HR.out hs0 hs1'
        have hrise := srise HR.out m 0 s0 s1 hs0 (by rw [Nat.zero_add]; exact hs1)
        have hsel := sel_all HR.out hs0 hs1'
        have hm0 := (HR.out 0 s0 hs0).1
        have hm1 := (HR.out m s1 hs1).1
        unfold SMay at hm0 hm1
        have e1 : IntKind.i64.wrap ((k : Int) + 1) = (q : Int) := by rw [show (k : Int) + 1 = (q : Int) by omega]; exact IntWalk.i64_in _ (by omega)
        have e2 : IntKind.i64.wrap ((n : Int) - 1) = (m : Int) := by rw [show (n : Int) - 1 = (m : Int) by omega]; exact IntWalk.i64_in _ (by omega)
        have e3 : IntKind.i64.wrap (slen 0 (l.take q) + slen 0 (l.drop k)) = slen 0 l := by rw [hsplit]; exact IntWalk.i64_in _ (by rw [HN.out] at hrange; omega)
        have e4 : IntKind.i64.wrap (s1.t - s0.t) = s1.t - s0.t := IntWalk.i64_in _ (by omega)
        have e5 : decide (sgap 0 l ≤ s1.t - s0.t) = true := by simp; omega
        have i0 := fun W => ha3 W 0 (by omega) (by omega)
        have i1 := fun W => ha3 W (m : Int) (by omega) (by omega)
        rw [show ((0 : Int)).toNat = 0 from rfl] at i0
        rw [show ((m : Int)).toNat = m by omega] at i1
        have R1 := Lib.hid (sright_take' HR.out q)
        have R2 := Lib.hid (sright_drop HR.out k)
        have HC : Hid (∀ W, Below w4.heap.size w4 W → W.cell? ⟨b1, o1 0, none⟩ = some (.int .i64 s0.t) ∧ W.cell? ⟨b1, o1 m, none⟩ = some (.int .i64 s1.t)) := by
          intro W hW
          have := hw4.size
          exact ⟨(hW.cell (by show b1 < _; omega)).trans p0, (hW.cell (by show b1 < _; omega)).trans p1⟩
        have H1 := Lib.hid hYs1
        have H2 := Lib.hid hYs2
        have HA4 := Lib.hid ha4'
        have HSEL := Lib.hid hsel
        have hlen1 : Hid ((l.take q).length ≤ 1048576) := by show _ ≤ _; rw [List.length_take, HN.out]; omega
        have hlen2 : Hid ((l.drop k).length ≤ 1048576) := by show _ ≤ _; rw [List.length_drop, HN.out]; omega
        have hlen3 : Hid (l.length ≤ 1048576) := by show _ ≤ _; rw [HN.out]; omega
        obtain ⟨l1, hl1⟩ : ∃ x, l.take q = x := ⟨_, rfl⟩
        obtain ⟨l2, hl2⟩ : ∃ x, l.drop k = x := ⟨_, rfl⟩
        rw [hl1] at hYs1 H1 R1 hlen1 e3
        rw [hl2] at hYs2 H2 R2 hlen2 e3
        clear hl1 hl2 hsplit
        obtain ⟨x1, y1, hx1⟩ := hYs1.shape
        obtain ⟨x2, y2, hx2⟩ := hYs2.shape
        subst hx1 hx2
        clear hYs1 hYs2 ha4' hs0 hs1 hs1' hrange hgap hsel ha3 ha4 ha5 hm hq hn0 hnn hrise hm0 hm1
        go_wp2_with fail
        go_region_held3 (fun w' => w'.cell? ⟨b1, o1 0, none⟩ = some (.int .i64 s0.t) ∧ w'.cell? ⟨b1, o1 m, none⟩ = some (.int .i64 s1.t))
          (first | go_keep | exact HC.out _ H11.out | exact HC.out _ H10.out | exact HC.out _ H9.out | exact HC.out _ H8.out | exact HC.out _ H7.out | exact HC.out _ H6.out)
          (first
            | (go_at_call 50; refine (length_any (.slice x1 l1.length y1) l1 _ H1.out.drew R1.out hlen1.out).mono ?_; rintro e w6 ⟨rfl, hb6⟩; have H6 := Lib.hid (((Below.refl w4.heap.size w4).drew).trans hb6))
            | (go_at_call 50; refine (length_any (.slice x2 l2.length y2) l2 _ (H2.out.below H6.out) R2.out hlen2.out).mono ?_; rintro e w7 ⟨rfl, hb7⟩; have H7 := Lib.hid (H6.out.trans (hb7.mono H6.out.size)))
            | (go_at_call 50; refine (length_any (.slice a n ca) l _ (HA4.out.below H7.out) HR.out hlen3.out).mono ?_; rintro e w8 ⟨rfl, hb8⟩; have H8 := Lib.hid (H7.out.trans (hb8.mono H7.out.size)))
            | (go_at_call 51; refine (gap_any (.slice a n ca) l _ (HA4.out.below H8.out) HR.out hlen3.out).mono ?_; rintro e w9 ⟨rfl, hb9⟩; have H9 := Lib.hid (H8.out.trans (hb9.mono H8.out.size)))
            | (go_at_call 52; refine (between_any (.slice a n ca) l s0.t s1.t _ (HA4.out.below H9.out) hlen3.out).mono ?_; rintro e w10 ⟨v10, rfl, ho10, hb10⟩; have H10 := Lib.hid (H9.out.trans (hb10.mono H9.out.size)))
            | (go_at_call 21; refine (ssame_any _ _ l _ (by have := ho10.ss; rwa [HSEL.out] at this) (HA4.out.below H10.out)).mono ?_; rintro e w11 ⟨rfl, hb11⟩; have H11 := Lib.hid (H10.out.trans (hb11.mono H10.out.size))))
        go_wp2
        go_ret
        exact ⟨rfl, hw4.trans (H11.out.mono hw4.size)⟩
    · have hw2 := hb1.trans (hb2.mono hb1.size)
      have HR := Lib.hid hR
      clear hR
      go_wp2_with fail
      refine (rright_any _ l _ (ha.below hw2)).mono ?_
      rintro e w3 ⟨b, rfl, hbi, hb3⟩
      have hbf : b = false := by cases b with
        | false => rfl
        | true => exact absurd (hbi.1 rfl) HR.out
      subst hbf
      clear hbi
      go_wp2
      go_ret
      exact ⟨rfl, hw2.trans (hb3.mono hw2.size)⟩
  · have dl : decide ((500 : Int) < n) = true := by simp; omega
    go_enter Try.func12, Try.ntmps12
    go_wp2_with fail
    refine (awake6 _).mono ?_
    rintro e w1 ⟨rfl, hb1⟩
    go_wp2
    go_ret
    exact ⟨rfl, hb1⟩

end Go.Proofs.Yticpmkdlnjnfgaa
