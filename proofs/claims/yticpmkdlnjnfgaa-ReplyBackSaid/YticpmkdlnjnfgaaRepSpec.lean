/- Layer 39 (reply): what is put is taken; bytes are the same just if the replies are. -/
import Derived.Test.YticpmkdlnjnfgaaRep3
import Derived.Test.YticpmkdlnjnfgaaFBspec
namespace Go.Proofs.Yticpmkdlnjnfgaa

theorem rread_content (r : Rep) (h : repOk r = true) : rread (rcontent r) = (r, (rcontent r).length, 0) := by
  rw [repOk_iff] at h
  obtain ⟨h1, h2, h3, h4, h5, -⟩ := h
  obtain ⟨e, n, m, t⟩ := r
  simp only at h1 h2 h3 h4 h5
  have hc : (rcontent ⟨e, n, m, t⟩).drop 0 = vput e.toNat ++ (vput (vturn n).toNat ++ (vput (vturn m).toNat ++ (vput t.length ++ (t ++ [])))) := by
    unfold rcontent
    simp
  obtain ⟨L, hL⟩ : ∃ L, rcontent ⟨e, n, m, t⟩ = L := ⟨_, rfl⟩
  have hlen : L.length = (vput e.toNat).length + (vput (vturn n).toNat).length + (vput (vturn m).toNat).length + (vput t.length).length + t.length := by
    rw [← hL]
    unfold rcontent
    simp
    omega
  rw [hL] at hc ⊢
  have e1 := rnum_vput (most := 99) hc (by omega) (by omega)
  have d1 := drop_more hc
  have e2 := rsig_vput (most := 281474976710656) d1 (by omega) (by omega)
  have d2 := drop_more d1
  have e3 := rsig_vput (most := 281474976710656) d2 (by omega) (by omega)
  have d3 := drop_more d2
  have e4 := rnum_vput (most := 1048576) d3 (by omega) (by omega)
  have d4 := drop_more d3
  have hb : rbytes 1048576 L (0 + (vput e.toNat).length + (vput (vturn n).toNat).length + (vput (vturn m).toNat).length) 0 = (t, L.length, 0) := by
    unfold rbytes
    rw [e4]
    simp only [ne_eq, not_true_eq_false, if_false]
    rw [if_neg (by omega), d4]
    simp
    omega
  have v2 := vback_vturn n (by omega) (by omega)
  have v3 := vback_vturn m (by omega) (by omega)
  rw [rread_eq e1 e2 e3 hb, v2, v3]
  have : ((e.toNat : Nat) : Int) = e := by omega
  rw [this]

theorem rtake_put (r : Rep) (h : repOk r = true) (hwf : RepWf r) (ht : r.t.length ≤ 1000000) : rtakeRep (rbytesOf r) = (r, 0) := by
  have hl := rcontent_len r hwf ht
  have hf := fwhole_frame 6 (rcontent r) (by omega)
  exact rtake_y hf (rread_content r h) (by unfold rdone; simp) h

theorem rep_inj {a b : Rep} (ha : repOk a = true) (hb : repOk b = true) (wa : RepWf a) (wb : RepWf b) (la : a.t.length ≤ 1000000) (lb : b.t.length ≤ 1000000) : (rbytesOf a == rbytesOf b) = repSame a b := by
  by_cases h : a = b
  · subst h
    simp [repSame]
  · have h1 : ¬ rbytesOf a = rbytesOf b := fun e => h (by
      have x := rtake_put a ha wa la
      rw [e, rtake_put b hb wb lb] at x
      exact (congrArg Prod.fst x).symm)
    have h2 : repSame a b = false := by
      rw [Bool.eq_false_iff]
      intro hs
      simp only [repSame, Bool.and_eq_true, beq_iff_eq] at hs
      obtain ⟨⟨⟨x1, x2⟩, x3⟩, x4⟩ := hs
      apply h
      cases a
      cases b
      simp_all
    rw [h2]
    simpa using h1

theorem rbytes_len {r : Rep} (hwf : RepWf r) (ht : r.t.length ≤ 1000000) : (rbytesOf r).length ≤ r.t.length + 60 := by
  have hl := rcontent_len r hwf ht
  have := vput_len10 (rcontent r).length (by omega)
  unfold rbytesOf
  rw [fframe_len]
  omega

end Go.Proofs.Yticpmkdlnjnfgaa
