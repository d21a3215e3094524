/- Layer 8 (hmac): the walk of the statement HmacTags. -/
import Derived.Test.YtmhgdddnjnichaaDoorHmL
set_option linter.unusedSimpArgs false
namespace Go.Proofs.YtmhgdddnjnichaaDoor
open Go.RowKit Go.Sort

/-- a list of lists of bytes -/
def Bss (w : World) (v : Value) (x : List Value × List (List UInt8)) : Prop :=
  x.1.length = x.2.length ∧ Rd w 1 v x.1.length x.1 ∧ ∀ (i : Nat) (u : Value) (l : List UInt8), x.1[i]? = some u → x.2[i]? = some l → Bs w u l

set_option maxRecDepth 100000 in
set_option maxHeartbeats 1600000 in
theorem hmactags_walk (vk vl : Value) (key : List UInt8) (vs : List Value) (ls : List (List UInt8)) (s : ByteArray) (hn : vs.length = ls.length) (w : World) (hk : Bs w vk key) (hl : Rd w 1 vl vs.length vs)
    (hv : ∀ (i : Nat) (v : Value) (l : List UInt8), vs[i]? = some v → ls[i]? = some l → Bs w v l) (hT : Tabbed w) :
    Calls Tryd.prog 5 #[vk, vl, .string s] w fun e w' => e = .returned (.bool true) ∧ Below w.heap.size w w' := by
  obtain ⟨ka, kc, rfl⟩ := hk.shape
  have HL := Lib.hid hl
  obtain ⟨a, c, adr, rfl, h2, h3, h4, h5, h6, h7⟩ := Rd.open_ elBs hl
  obtain ⟨n, hN⟩ : ∃ n, vs.length = n := ⟨_, rfl⟩
  rw [hN] at HL h2 h4 h5 h6 h7 hn ⊢
  have X : Hid (∀ (W : World) (i : Nat), i < n → (Instr.indexAt 30 (.slice a n c) (.int .i64 (i : Int))).run Tryd.prog W = .ok (.pointer (some (adr i))) W) := fun W i hi => by
    have := h5 W i (by omega) (by omega)
    simpa using this
  have C : Hid (∀ W, Below w.heap.size w W → ∀ (i : Nat) (v : Value), vs[i]? = some v → W.cell? (adr i) = some v) := by
    intro W hW i v hi
    have hlt : i < n := by rw [← hN]; exact (List.getElem?_eq_some_iff.1 hi).1
    have := h7 i hlt 0 (by omega)
    rw [Addr.add_zero'] at this
    rw [hW.cell (h6 i hlt), this]
    simpa using hi
  have HV := Lib.hid hv
  have HT := Lib.hid hT
  have HNN := Lib.hid hN
  have HN2 := Lib.hid hn
  have HK := Lib.hid hk
  clear hl hk h4 h5 h6 h7 hv hT hN hn
  by_cases hc1 : key.length ≤ 500
  · have d1 : decide ((500 : Int) < key.length) = false := by simp; omega
    by_cases hc2 : n ≤ 10
    · have d2 : decide ((10 : Int) < n) = false := by simp; omega
      by_cases hc3 : s.size ≤ 100
      · have d3 : decide ((100 : Int) < s.size) = false := by simp; omega
        have c1 : (key.length : Int) ≤ 500 := by omega
        have c2 : (n : Int) ≤ 10 := by omega
        have c3 : (s.size : Int) ≤ 100 := by omega
        go_enter Tryd.func5, Tryd.ntmps5
        go_wp2_with fail
        refine (awake8 _ HT.out).mono ?_
        rintro e w1 ⟨rfl, hb1⟩
        have HB1 : Hid (Below w.heap.size w w1) := hb1
        clear hb1
        go_wp2_with fail
        go_loopw [7, 27] (fun v i wr => ∃ k : Nat, k ≤ n ∧ i = .int .i64 k ∧ Hid (Ob wr w1.heap.size 5 v (ls.take k).flatten) ∧ Hid ((ls.take k).flatten.length ≤ 300 * k) ∧ Hid (Below w1.heap.size w1 wr)) (fun _ i _ => n - (intOf i).toNat)
        case atStart => exact ⟨0, by omega, rfl, Lib.hid (Ob.nil _ _ _), Lib.hid (by simp), Lib.hid (Below.refl _ _)⟩
        case round =>
          obtain ⟨k, hk, rfl, ho, hsz, hb⟩ := hrel
          have hbw : Hid (Below w.heap.size w wr) := HB1.out.trans (hb.out.mono HB1.out.size)
          by_cases hlt : k < n
          · have e1 : (k : Int) < (n : Int) := by omega
            have XK := fun W => X.out W k hlt
            obtain ⟨v, hv⟩ : ∃ v, vs[k]? = some v := ⟨_, List.getElem?_eq_getElem (by rw [HNN.out]; exact hlt)⟩
            obtain ⟨l, hl⟩ : ∃ l, ls[k]? = some l := ⟨_, List.getElem?_eq_getElem (by rw [← HN2.out]; exact hlt)⟩
            have hbl : Bs wr v l := (HV.out k v l hv hl).below hbw.out
            obtain ⟨va, vc, rfl⟩ := hbl.shape
            have ck := C.out wr hbw.out k _ hv
            have hs := hb.out.size
            have HBL := Lib.hid hbl
            have HTK : Hid ((ls.take (k + 1)).flatten = (ls.take k).flatten ++ l) := by
              show _ = _
              rw [List.take_add_one, hl]
              simp
            clear hv hl hbl
            by_cases h300 : l.length ≤ 300
            · have e3 : (l.length : Int) ≤ 300 := by omega
              go_wp2_with (at_builtin; go_must (refine wpList_append_bytes ho.out HBL.out elB (by have := hsz.out; omega) (by have := hsz.out; omega) hs ?_ _ _ rfl rfl rfl rfl; intro v4 w4 ho4 hg4 hb4 _; have HO4 := Lib.hid ho4; have HB4 := Lib.hid hb4; clear ho4 hg4 hb4))
              go_roundw
              case rel =>
                refine ⟨k + 1, by omega, by go_num, Lib.hid ?_, Lib.hid ?_, Lib.hid (hb.out.trans HB4.out)⟩
                · rw [HTK.out]
                  exact HO4.out
                · rw [HTK.out, List.length_append]
                  have := hsz.out
                  omega
              case measure => simp [intOf]; omega
            · have e3 : (300 : Int) < (l.length : Int) := by omega
              go_wp2
              go_ret
              exact ⟨rfl, hbw.out⟩
          · have e1 : ¬ (k : Int) < (n : Int) := by omega
            obtain rfl : k = n := by omega
            have hall : ls.take k = ls := List.take_of_length_le (by rw [← HN2.out]; exact Nat.le_refl _)
            rw [hall] at ho hsz
            obtain ⟨al, hal⟩ : ∃ al, ls.flatten = al := ⟨_, rfl⟩
            rw [hal] at ho hsz
            have HAL := Lib.hid hal
            have hal2 : al.length ≤ 3000 := by have := hsz.out; omega
            clear hal hall
            obtain ⟨aa, ac, rfl⟩ := ho.out.shape
            have ha : Bs wr (.slice aa al.length ac) al := ho.out.bs
            have HA := Lib.hid ha
            have hr1 : (htag key al == htag key al) = true := by simp
            have hr2 : (hderive key s.data.toList al == hderive key s.data.toList al) = true := by simp
            have HR1 := Lib.hid hr1
            have HR2 := Lib.hid hr2
            have HLw := fun W (h : Below w.heap.size w W) => HL.out.below h
            have HLW := Lib.hid HLw
            clear ha hr1 hr2 HLw
            go_wp2_with fail
            refine (tag_any _ _ key vs ls (HNN.out.trans HN2.out) wr (HK.out.below hbw.out) (by rw [HNN.out]; exact HLW.out _ hbw.out) (fun i v l h1 h2 => (HV.out i v l h1 h2).below hbw.out) (by omega) (by rw [HAL.out]; omega) (HT.out.below hbw.out)).mono ?_
            rw [HAL.out]
            rintro e w2 ⟨v2, rfl, ho2, hb2⟩
            have HO2 := Lib.hid ho2.bs
            have HA2 := Lib.hid (HA.out.below hb2)
            have HB2 := Lib.hid (bel_tr hbw.out hb2)
            clear ho2 hb2
            go_wp2_with fail
            refine (rtag_any _ _ key al (by omega) (by omega) _ (HK.out.below HB2.out) HA2.out).mono ?_
            rintro e w3 ⟨v3, rfl, ho3, hb3⟩
            have HO3 := Lib.hid ho3.bs
            have HO23 := Lib.hid (HO2.out.below hb3)
            have HA3 := Lib.hid (HA2.out.below hb3)
            have HB3 := Lib.hid (bel_tr HB2.out hb3)
            clear ho3 hb3
            go_wp2_with fail
            refine (same_any _ _ _ _ _ HO23.out HO3.out).mono ?_
            rw [HR1.out]
            rintro e w4 ⟨rfl, hb4⟩
            have HA4 := Lib.hid (HA3.out.below hb4)
            have HB4 := Lib.hid (bel_tr HB3.out hb4)
            clear hb4
            go_wp2_with fail
            refine (derive_any _ _ key s vs ls (HNN.out.trans HN2.out) _ (HK.out.below HB4.out) (by rw [HNN.out]; exact HLW.out _ HB4.out) (fun i v l h1 h2 => (HV.out i v l h1 h2).below HB4.out) (by omega) (by rw [HAL.out]; omega) (HT.out.below HB4.out)).mono ?_
            rw [HAL.out]
            rintro e w5 ⟨v5, rfl, ho5, hb5⟩
            have HO5 := Lib.hid ho5.bs
            have HA5 := Lib.hid (HA4.out.below hb5)
            have HB5 := Lib.hid (bel_tr HB4.out hb5)
            clear ho5 hb5
            go_wp2_with fail
            refine (rderive_any _ _ key al s (by omega) (by omega) _ (HK.out.below HB5.out) HA5.out).mono ?_
            rintro e w6 ⟨v6, rfl, ho6, hb6⟩
            have HO6 := Lib.hid ho6.bs
            have HO56 := Lib.hid (HO5.out.below hb6)
            have HB6 := Lib.hid (bel_tr HB5.out hb6)
            clear ho6 hb6
            go_wp2_with fail
            refine (same_any _ _ _ _ _ HO56.out HO6.out).mono ?_
            rw [HR2.out]
            rintro e w7 ⟨rfl, hb7⟩
            have HB7 := Lib.hid (bel_tr HB6.out hb7)
            clear hb7
            go_wp2
            go_ret
            exact ⟨rfl, HB7.out⟩
      · have d3 : decide ((100 : Int) < s.size) = true := by simp; omega
        have c1 : (key.length : Int) ≤ 500 := by omega
        have c2 : (n : Int) ≤ 10 := by omega
        have c3 : (100 : Int) < s.size := by omega
        go_enter Tryd.func5, Tryd.ntmps5
        go_wp2_with (go_at_call 22; refine (awake8 _ HT.out).mono ?_; rintro e w1 ⟨rfl, hb1⟩; have HB1 := Lib.hid hb1; clear hb1)
        go_ret
        exact ⟨rfl, HB1.out⟩
    · have d2 : decide ((10 : Int) < n) = true := by simp; omega
      have c1 : (key.length : Int) ≤ 500 := by omega
      have c2 : (10 : Int) < n := by omega
      go_enter Tryd.func5, Tryd.ntmps5
      go_wp2_with (go_at_call 22; refine (awake8 _ HT.out).mono ?_; rintro e w1 ⟨rfl, hb1⟩; have HB1 := Lib.hid hb1; clear hb1)
      go_ret
      exact ⟨rfl, HB1.out⟩
  · have d1 : decide ((500 : Int) < key.length) = true := by simp; omega
    have c1 : (500 : Int) < key.length := by omega
    go_enter Tryd.func5, Tryd.ntmps5
    go_wp2_with (go_at_call 22; refine (awake8 _ HT.out).mono ?_; rintro e w1 ⟨rfl, hb1⟩; have HB1 := Lib.hid hb1; clear hb1)
    go_ret
    exact ⟨rfl, HB1.out⟩

theorem hmactags_row (vk : Value) (key : List UInt8) (vl : Value) (x : List Value × List (List UInt8)) (s : ByteArray) (w : World) (hk : Bs w vk key) (hl : Bss w vl x) (hT : Tabbed w) :
    Calls Tryd.prog 5 #[vk, vl, .string s] w fun e w' => e = .returned (.bool true) ∧ Below w.heap.size w w' :=
  hmactags_walk vk vl key x.1 x.2 s hl.1 w hk hl.2.1 hl.2.2 hT

end Go.Proofs.YtmhgdddnjnichaaDoor
