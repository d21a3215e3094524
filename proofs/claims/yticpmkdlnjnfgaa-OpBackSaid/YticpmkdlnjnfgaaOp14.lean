/- Layer 38 (op): there and back, as plain law. No function of the program stands here. -/
import Derived.Test.YticpmkdlnjnfgaaOp13
namespace Go.Proofs.Yticpmkdlnjnfgaa
open Go.RowKit Go.Sort

theorem orbytes_vput {l r b : List UInt8} {pos : Nat} {most : Int} (h : l.drop pos = (vput b.length ++ b) ++ r) (h1 : b.length ≤ 4611686018427387904) (hm : (b.length : Int) ≤ most) : rbytes most l pos 0 = (b, pos + (vput b.length ++ b).length, 0) := by
  have h2 := rnum_vput (most := most) (r := b ++ r) (by rw [h, List.append_assoc]) h1 hm
  have hd : l.drop (pos + (vput b.length).length) = b ++ r := drop_more (by rw [h, List.append_assoc])
  have hl : pos + (vput b.length).length + b.length ≤ l.length := by
    have h3 := congrArg List.length hd
    simp at h3
    by_cases hb : b.length = 0
    · have h4 := congrArg List.length h
      have := vput_pos b.length
      simp at h4
      omega
    · omega
  unfold rbytes
  rw [h2]
  simp only
  rw [if_neg (by simp), if_neg (by omega), hd, List.take_left]
  simp only [List.length_append, Prod.mk.injEq, true_and, and_true]
  omega

theorem onum_good {most : Int} {l : List UInt8} {pos bad : Nat} (h : (rnum most l pos bad).2.2 = 0) :
    bad = 0 ∧ (rnum most l pos bad).1 ≤ 4611686018427387904 ∧ ((rnum most l pos bad).1 : Int) ≤ most ∧ ∃ r, l.drop pos = vput (rnum most l pos bad).1 ++ r ∧ (rnum most l pos bad).2.1 = pos + (vput (rnum most l pos bad).1).length := by
  have hm := rnum_most most l pos bad
  obtain ⟨hb, hm2⟩ := hm.2 h
  refine ⟨hb, hm.1, hm2, ?_⟩
  subst hb
  clear hm hm2
  unfold rnum rraw at h ⊢
  rw [if_neg (by simp)] at h ⊢
  by_cases h1 : (vtake (l.drop pos)).2.2 = 0
  · rw [if_neg (by simp [h1])] at h ⊢
    by_cases h2 : mayN most (vtake (l.drop pos)).1 = true
    · rw [if_pos h2]
      obtain ⟨_, _, h5, h6⟩ := vtake_good _ h1
      refine ⟨(l.drop pos).drop (vtake (l.drop pos)).2.1, ?_, ?_⟩
      · show _ = vput (vtake (l.drop pos)).1 ++ _
        rw [h6, List.take_append_drop]
      · show pos + (vtake (l.drop pos)).2.1 = pos + (vput (vtake (l.drop pos)).1).length
        rw [h6, List.length_take]
        omega
    · rw [if_neg h2] at h
      exact absurd h (by simp)
  · rw [if_pos h1] at h
    exact absurd h h1

theorem obytes_good {most : Int} {l : List UInt8} {pos bad : Nat} (h : (rbytes most l pos bad).2.2 = 0) :
    bad = 0 ∧ ((rbytes most l pos bad).1.length : Int) ≤ most ∧ ∃ r, l.drop pos = (vput (rbytes most l pos bad).1.length ++ (rbytes most l pos bad).1) ++ r ∧ (rbytes most l pos bad).2.1 = pos + (vput (rbytes most l pos bad).1.length ++ (rbytes most l pos bad).1).length := by
  by_cases h1 : (rnum most l pos bad).2.2 = 0
  · obtain ⟨hb, hv, hm, r, hr, hp⟩ := onum_good h1
    unfold rbytes at h ⊢
    rw [if_neg (by simp [h1])] at h ⊢
    obtain ⟨n, hn⟩ : ∃ n, (rnum most l pos bad).1 = n := ⟨_, rfl⟩
    obtain ⟨p, hp'⟩ : ∃ n, (rnum most l pos bad).2.1 = n := ⟨_, rfl⟩
    rw [hn] at h hr hp hm ⊢
    rw [hp'] at h hp ⊢
    by_cases h2 : l.length - p < n
    · rw [if_pos h2] at h
      exact absurd h (by simp)
    · rw [if_neg h2]
      have hlen : ((l.drop p).take n).length = n := by rw [List.length_take, List.length_drop]; omega
      simp only
      refine ⟨hb, by rw [hlen]; exact hm, (l.drop p).drop n, ?_, ?_⟩
      · rw [hlen, List.append_assoc, List.take_append_drop, hr]
        congr 1
        rw [hp]
        exact (drop_more hr).symm
      · rw [List.length_append, hlen, hp]
        omega
  · unfold rbytes at h
    rw [if_pos h1] at h
    exact absurd h h1

theorem drop_eq_of {c a s : List UInt8} (h : c = a ++ s) : c.drop a.length = s := by rw [h]; exact List.drop_left

theorem opNums_more (o : OpD) (i : Nat) : ∀ d, ∃ r, opNums o (i + d) = opNums o i ++ r
  | 0 => ⟨[], by simp⟩
  | d + 1 => by
    obtain ⟨r, hr⟩ := opNums_more o i d
    refine ⟨r ++ vput (o.num (i + d)).toNat, ?_⟩
    show opNums o (i + d) ++ vput (o.num (i + d)).toNat = _
    rw [hr, List.append_assoc]
theorem opParts_more (o : OpD) (i : Nat) : ∀ d, ∃ r, opParts o (i + d) = opParts o i ++ r
  | 0 => ⟨[], by simp⟩
  | d + 1 => by
    obtain ⟨r, hr⟩ := opParts_more o i d
    refine ⟨r ++ (vput (o.part (i + d)).length ++ o.part (i + d)), ?_⟩
    show opParts o (i + d) ++ (vput (o.part (i + d)).length ++ o.part (i + d)) = _
    rw [hr, List.append_assoc]

/-- forth: reading what was put, with something behind it -/
theorem op_forth_n (o : OpD) (hok : numsOk o 3 = true) (n : Nat) (hn : n ≤ 3) (x : List UInt8) : ∀ i, i ≤ n → opRdN (opNums o n ++ x) i = ((opNums o i).length, 0) ∧ (i < n → opValN (opNums o n ++ x) i = (o.num i).toNat) := by
  have key : ∀ i, i < n → opRdN (opNums o n ++ x) i = ((opNums o i).length, 0) → rnum opTop (opNums o n ++ x) (opNums o i).length 0 = ((o.num i).toNat, (opNums o (i + 1)).length, 0) := by
    intro i hi _
    obtain ⟨r, hr⟩ := opNums_more o (i + 1) (n - (i + 1))
    rw [show i + 1 + (n - (i + 1)) = n by omega] at hr
    have hb := numsOk_at hok i (by omega)
    have hd : (opNums o n ++ x).drop (opNums o i).length = vput (o.num i).toNat ++ (r ++ x) := by
      rw [hr]
      show ((opNums o i ++ vput (o.num i).toNat) ++ r ++ x).drop _ = _
      rw [List.append_assoc, List.append_assoc, List.drop_left]
    have := rnum_vput (most := opTop) hd (by omega) (by unfold opTop; omega)
    rw [this]
    show _ = (_, (opNums o i ++ vput (o.num i).toNat).length, 0)
    rw [List.length_append]
  intro i
  induction i with
  | zero =>
    intro _
    refine ⟨rfl, fun h => ?_⟩
    have := key 0 h rfl
    unfold opValN
    exact congrArg Prod.fst this
  | succ i ih =>
    intro hi
    have h0 := (ih (by omega)).1
    have h1 : opRdN (opNums o n ++ x) (i + 1) = ((opNums o (i + 1)).length, 0) := by
      show (rnum opTop _ (opRdN (opNums o n ++ x) i).1 (opRdN (opNums o n ++ x) i).2).2 = _
      rw [h0, key i (by omega) h0]
    refine ⟨h1, fun h => ?_⟩
    unfold opValN
    rw [h1]
    exact congrArg Prod.fst (key (i + 1) h h1)

theorem op_forth_p (o : OpD) (hok : numsOk o 3 = true) (hpk : partsOk o 3 = true) (n m : Nat) (hn : n ≤ 3) (hm : m ≤ 3) (x : List UInt8) : ∀ j, j ≤ m → opRdP (opNums o n ++ (opParts o m ++ x)) n j = ((opNums o n ++ opParts o j).length, 0) ∧ (j < m → opValP (opNums o n ++ (opParts o m ++ x)) n j = o.part j) := by
  have key : ∀ j, j < m → rbytes 1048576 (opNums o n ++ (opParts o m ++ x)) (opNums o n ++ opParts o j).length 0 = (o.part j, (opNums o n ++ opParts o (j + 1)).length, 0) := by
    intro j hj
    obtain ⟨r, hr⟩ := opParts_more o (j + 1) (m - (j + 1))
    rw [show j + 1 + (m - (j + 1)) = m by omega] at hr
    have hb := partsOk_at hpk j (by omega)
    have hd : (opNums o n ++ (opParts o m ++ x)).drop (opNums o n ++ opParts o j).length = (vput (o.part j).length ++ o.part j) ++ (r ++ x) := by
      rw [hr]
      show (opNums o n ++ (((opParts o j ++ (vput (o.part j).length ++ o.part j)) ++ r) ++ x)).drop _ = _
      rw [List.append_assoc, List.append_assoc (opParts o j), ← List.append_assoc, List.drop_left]
    have := orbytes_vput (most := 1048576) hd (by omega) (by omega)
    rw [this]
    refine congrArg (fun z : Nat => (o.part j, z, 0)) ?_
    show _ = (opNums o n ++ (opParts o j ++ (vput (o.part j).length ++ o.part j))).length
    simp only [List.length_append]
    omega
  intro j
  induction j with
  | zero =>
    intro _
    have h0 : opRdP (opNums o n ++ (opParts o m ++ x)) n 0 = ((opNums o n ++ opParts o 0).length, 0) := by
      show opRdN _ n = _
      rw [(op_forth_n o hok n hn (opParts o m ++ x) n (Nat.le_refl _)).1]
      simp [opParts]
    refine ⟨h0, fun h => ?_⟩
    unfold opValP
    rw [h0]
    exact congrArg Prod.fst (key 0 h)
  | succ j ih =>
    intro hj
    have h0 := (ih (by omega)).1
    have h1 : opRdP (opNums o n ++ (opParts o m ++ x)) n (j + 1) = ((opNums o n ++ opParts o (j + 1)).length, 0) := by
      show (rbytes 1048576 _ (opRdP _ n j).1 (opRdP _ n j).2).2 = _
      rw [h0, key j (by omega)]
    refine ⟨h1, fun h => ?_⟩
    unfold opValP
    rw [h1]
    exact congrArg Prod.fst (key (j + 1) h)

theorem op_k_byte {o : OpD} (h : opIs o.k = true) : (((UInt8.ofNat (o.k % 256).toNat).toNat : Nat) : Int) = o.k := by
  unfold opIs at h
  simp at h
  rw [ou8_int]
  omega

theorem op_fields {o : OpD} (hok : opRight o = true) (x : List UInt8) : opOf o.k (opNums o (opN o.k) ++ (opParts o (opK o.k) ++ x)) (opN o.k) (opK o.k) = o := by
  obtain ⟨his, hns, hps⟩ := opRight_parts hok
  have hx : ∀ j, j < 3 → opXs (opNums o (opN o.k) ++ (opParts o (opK o.k) ++ x)) (opN o.k) j = o.num j := fun j hj => by
    unfold opXs
    have hb := numsOk_at hns j hj
    by_cases h : j < opN o.k
    · rw [if_pos h, (op_forth_n o hns _ (opN_le _) _ j (by omega)).2 h]
      omega
    · rw [if_neg h]
      unfold numsOk at hns
      rw [List.all_eq_true] at hns
      have := hns j (by simpa using hj)
      unfold numOk at this
      simp at this
      omega
  have hy : ∀ j, j < 3 → opYs (opNums o (opN o.k) ++ (opParts o (opK o.k) ++ x)) (opN o.k) (opK o.k) j = o.part j := fun j hj => by
    unfold opYs
    by_cases h : j < opK o.k
    · rw [if_pos h, (op_forth_p o hns hps _ _ (opN_le _) (opK_le _) _ j (by omega)).2 h]
    · rw [if_neg h]
      unfold partsOk at hps
      rw [List.all_eq_true] at hps
      have := hps j (by simpa using hj)
      unfold partOk at this
      simp at this
      rcases this.2 with h2 | h2
      · omega
      · exact h2.symm
  unfold opOf
  rw [hx 0 (by omega), hx 1 (by omega), hx 2 (by omega), hy 0 (by omega), hy 1 (by omega), hy 2 (by omega)]
  rfl

theorem otake_put {o : OpD} (hok : opRight o = true) (x : List UInt8) : otake (opBytes o ++ x) = if x = [] then (o, 0) else (opZero, 13) := by
  obtain ⟨his, hns, hps⟩ := opRight_parts hok
  have e : opBytes o ++ x = UInt8.ofNat (o.k % 256).toNat :: (opNums o (opN o.k) ++ (opParts o (opK o.k) ++ x)) := by
    unfold opBytes
    simp [List.append_assoc]
  rw [e, otake_cons, op_k_byte his, his, if_pos rfl, op_fields hok x]
  have hd : opDone (opNums o (opN o.k) ++ (opParts o (opK o.k) ++ x)) (opN o.k) (opK o.k) = if x = [] then 0 else 13 := by
    unfold opDone rdone
    rw [(op_forth_p o hns hps _ _ (opN_le _) (opK_le _) x (opK o.k) (Nat.le_refl _)).1]
    simp only [List.length_append, true_and]
    by_cases hx : x = []
    · subst hx
      rw [if_pos rfl, if_neg (by simp)]
    · rw [if_neg hx, if_pos]
      have := List.length_pos_iff.2 hx
      omega
  rw [hd]
  by_cases hx : x = []
  · rw [if_pos hx, if_pos hx, if_pos rfl]
  · rw [if_neg hx, if_neg hx, if_neg (by decide)]

/-! back -/
def opNb (c : List UInt8) : Nat → List UInt8
  | 0 => []
  | i + 1 => opNb c i ++ vput (opValN c i)
def opPb (c : List UInt8) (n : Nat) : Nat → List UInt8
  | 0 => []
  | j + 1 => opPb c n j ++ (vput (opValP c n j).length ++ opValP c n j)

theorem op_back_n (c : List UInt8) : ∀ i, (opRdN c i).2 = 0 → (∃ r, c = opNb c i ++ r) ∧ (opRdN c i).1 = (opNb c i).length ∧ ∀ j, j < i → opValN c j ≤ 4611686018427387904
  | 0, _ => ⟨⟨c, rfl⟩, rfl, fun j hj => absurd hj (by omega)⟩
  | i + 1, h => by
    obtain ⟨h0, h1, _, r, hr, hp⟩ := onum_good (most := opTop) (l := c) (pos := (opRdN c i).1) (bad := (opRdN c i).2) h
    obtain ⟨⟨s, hs⟩, hl, hv⟩ := op_back_n c i h0
    refine ⟨⟨r, ?_⟩, ?_, ?_⟩
    · show c = (opNb c i ++ vput (opValN c i)) ++ r
      have hd : c.drop (opRdN c i).1 = s := by rw [hl]; exact drop_eq_of hs
      rw [hd] at hr
      conv => lhs; rw [hs, hr]
      rw [List.append_assoc]
      rfl
    · show (rnum opTop c (opRdN c i).1 (opRdN c i).2).2.1 = (opNb c i ++ vput (opValN c i)).length
      have hp' : (rnum opTop c (opRdN c i).1 (opRdN c i).2).2.1 = (opRdN c i).1 + (vput (opValN c i)).length := hp
      rw [hp', List.length_append, hl]
    · intro j hj
      by_cases e : j = i
      · subst e; exact h1
      · exact hv j (by omega)
theorem op_back_p (c : List UInt8) (n : Nat) : ∀ j, (opRdP c n j).2 = 0 → (opRdN c n).2 = 0 ∧ (∃ r, c = (opNb c n ++ opPb c n j) ++ r) ∧ (opRdP c n j).1 = (opNb c n ++ opPb c n j).length ∧ ∀ t, t < j → (opValP c n t).length ≤ 1048576
  | 0, h => by
    obtain ⟨⟨r, hr⟩, hl, _⟩ := op_back_n c n h
    exact ⟨h, ⟨r, by show c = (opNb c n ++ []) ++ r; rw [List.append_nil]; exact hr⟩, by show (opRdN c n).1 = (opNb c n ++ []).length; rw [List.append_nil]; exact hl, fun t ht => absurd ht (by omega)⟩
  | j + 1, h => by
    obtain ⟨h0, h1, r, hr, hp⟩ := obytes_good (most := 1048576) (l := c) (pos := (opRdP c n j).1) (bad := (opRdP c n j).2) h
    obtain ⟨hN, ⟨s, hs⟩, hl, hv⟩ := op_back_p c n j h0
    refine ⟨hN, ⟨r, ?_⟩, ?_, ?_⟩
    · show c = (opNb c n ++ (opPb c n j ++ (vput (opValP c n j).length ++ opValP c n j))) ++ r
      have hd : c.drop (opRdP c n j).1 = s := by rw [hl]; exact drop_eq_of hs
      rw [hd] at hr
      conv => lhs; rw [hs, hr]
      simp only [List.append_assoc]
      rfl
    · show (rbytes 1048576 c (opRdP c n j).1 (opRdP c n j).2).2.1 = (opNb c n ++ (opPb c n j ++ (vput (opValP c n j).length ++ opValP c n j))).length
      have hp' : (rbytes 1048576 c (opRdP c n j).1 (opRdP c n j).2).2.1 = (opRdP c n j).1 + (vput (opValP c n j).length ++ opValP c n j).length := hp
      rw [hp', hl]
      simp only [List.length_append]
      omega
    · intro t ht
      by_cases e : t = j
      · subst e
        have : ((opValP c n t).length : Int) ≤ 1048576 := h1
        omega
      · exact hv t (by omega)

theorem opNb_of (k : Int) (c : List UInt8) (n m : Nat) (hn : n ≤ 3) : ∀ i, i ≤ n → opNums (opOf k c n m) i = opNb c i
  | 0, _ => rfl
  | i + 1, hi => by
    show opNums (opOf k c n m) i ++ vput ((opOf k c n m).num i).toNat = opNb c i ++ vput (opValN c i)
    rw [opNb_of k c n m hn i (by omega)]
    have : (opOf k c n m).num i = (opValN c i : Int) := by
      have h3 : i = 0 ∨ i = 1 ∨ i = 2 := by omega
      rcases h3 with rfl | rfl | rfl
      · show opXs c n 0 = _; unfold opXs; rw [if_pos (by omega)]
      · show opXs c n 1 = _; unfold opXs; rw [if_pos (by omega)]
      · show opXs c n 2 = _; unfold opXs; rw [if_pos (by omega)]
    rw [this, Int.toNat_natCast]
theorem opPb_of (k : Int) (c : List UInt8) (n m : Nat) (hm : m ≤ 3) : ∀ j, j ≤ m → opParts (opOf k c n m) j = opPb c n j
  | 0, _ => rfl
  | j + 1, hj => by
    show opParts (opOf k c n m) j ++ (vput ((opOf k c n m).part j).length ++ (opOf k c n m).part j) = opPb c n j ++ (vput (opValP c n j).length ++ opValP c n j)
    rw [opPb_of k c n m hm j (by omega)]
    have : (opOf k c n m).part j = opValP c n j := by
      have h3 : j = 0 ∨ j = 1 ∨ j = 2 := by omega
      rcases h3 with rfl | rfl | rfl
      · show opYs c n m 0 = _; unfold opYs; rw [if_pos (by omega)]
      · show opYs c n m 1 = _; unfold opYs; rw [if_pos (by omega)]
      · show opYs c n m 2 = _; unfold opYs; rw [if_pos (by omega)]
    rw [this]

theorem op_back {b : List UInt8} {p : OpD} (h : otake b = (p, 0)) : opRight p = true ∧ opBytes p = b := by
  cases b with
  | nil => simp [otake] at h
  | cons hd c =>
    rw [otake_cons] at h
    by_cases his : opIs (hd.toNat : Int) = true
    · rw [if_pos his] at h
      obtain ⟨n, hn⟩ : ∃ n, opN (hd.toNat : Int) = n := ⟨_, rfl⟩
      obtain ⟨m, hm⟩ : ∃ n, opK (hd.toNat : Int) = n := ⟨_, rfl⟩
      have hn3 := opN_le (hd.toNat : Int)
      have hm3 := opK_le (hd.toNat : Int)
      rw [hn] at hn3
      rw [hm] at hm3
      rw [hn, hm] at h
      by_cases hdn : opDone c n m = 0
      · rw [if_pos hdn] at h
        obtain ⟨rfl, -⟩ := Prod.mk.inj h
        have hbad : (opRdP c n m).2 = 0 ∧ ¬ (opRdP c n m).1 < c.length := by
          unfold opDone rdone at hdn
          by_cases h1 : (opRdP c n m).2 = 0 ∧ (opRdP c n m).1 < c.length
          · rw [if_pos h1] at hdn; exact absurd hdn (by decide)
          · rw [if_neg h1] at hdn
            exact ⟨hdn, fun h2 => h1 ⟨hdn, h2⟩⟩
        obtain ⟨hN, ⟨r, hr⟩, hl, hv⟩ := op_back_p c n m hbad.1
        obtain ⟨_, _, hvn⟩ := op_back_n c n hN
        have hr0 : r = [] := by
          have := congrArg List.length hr
          rw [List.length_append] at this
          exact List.eq_nil_of_length_eq_zero (by omega)
        subst hr0
        rw [List.append_nil] at hr
        have hkk : (opOf (hd.toNat : Int) c n m).k = (hd.toNat : Int) := rfl
        constructor
        · unfold opRight
          rw [hkk, his]
          have e1 : numsOk (opOf (hd.toNat : Int) c n m) 3 = true := by
            unfold numsOk
            rw [List.all_eq_true]
            intro i hi
            have hi3 : i < 3 := by simpa using hi
            rw [hkk, hn]
            have e : (opOf (hd.toNat : Int) c n m).num i = opXs c n i := by
              have h3 : i = 0 ∨ i = 1 ∨ i = 2 := by omega
              rcases h3 with rfl | rfl | rfl <;> rfl
            rw [e]
            unfold opXs numOk
            by_cases hin : i < n
            · rw [if_pos hin]
              have := hvn i hin
              simp [hin]
              omega
            · rw [if_neg hin]
              simp
          have e2 : partsOk (opOf (hd.toNat : Int) c n m) 3 = true := by
            unfold partsOk
            rw [List.all_eq_true]
            intro j hj
            have hj3 : j < 3 := by simpa using hj
            rw [hkk, hm]
            have e : (opOf (hd.toNat : Int) c n m).part j = opYs c n m j := by
              have h3 : j = 0 ∨ j = 1 ∨ j = 2 := by omega
              rcases h3 with rfl | rfl | rfl <;> rfl
            rw [e]
            unfold opYs partOk
            by_cases hjm : j < m
            · rw [if_pos hjm]
              have := hv j hjm
              simp [hjm]
              omega
            · rw [if_neg hjm]
              simp
          rw [e1, e2]
          rfl
        · unfold opBytes
          rw [hkk, hn, hm, opNb_of _ c n m hn3 n (Nat.le_refl _), opPb_of _ c n m hm3 m (Nat.le_refl _), ← hr]
          have : (UInt8.ofNat ((hd.toNat : Int) % 256).toNat) = hd := by
            have hlt := UInt8.toNat_lt hd
            have : ((hd.toNat : Int) % 256).toNat = hd.toNat := by omega
            rw [this]
            exact UInt8.ofNat_toNat
          rw [this]
          rfl
      · rw [if_neg hdn] at h
        exact absurd (Prod.mk.inj h).2 hdn
    · rw [if_neg his] at h
      exact absurd (Prod.mk.inj h).2 (by decide)

theorem op_fail {b : List UInt8} {p : OpD} {E : Nat} (h : otake b = (p, E)) (hE : E ≠ 0) : p = opZero := by
  cases b with
  | nil => exact (Prod.mk.inj h).1.symm
  | cons hd c =>
    rw [otake_cons] at h
    split at h
    · split at h
      · exact absurd (Prod.mk.inj h).2.symm hE
      · exact (Prod.mk.inj h).1.symm
    · exact (Prod.mk.inj h).1.symm

end Go.Proofs.Yticpmkdlnjnfgaa
