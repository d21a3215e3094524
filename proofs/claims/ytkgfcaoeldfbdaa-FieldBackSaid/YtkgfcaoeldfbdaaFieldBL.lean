/- The walk of the statement FieldBack. -/
import Derived.Test.YtkgfcaoeldfbdaaFieldW2
import Derived.Test.YtkgfcaoeldfbdaaReaderB
import Derived.Lib.QuietBelow
import Derived.Deep.RegionHeld3
namespace Go.Proofs.Ytkgfcaoeldfbdaa
open Go.RowKit Go.Sort

theorem rbytes_vput {l r b : List UInt8} {pos : Nat} (h : l.drop pos = (vput b.length ++ b) ++ r) (h1 : b.length ≤ 4611686018427387904) : rbytes b.length l pos 0 = (b, pos + (vput b.length ++ b).length, 0) := by
  have h2 := rnum_vput (most := (b.length : Int)) (r := b ++ r) (by rw [h, List.append_assoc]) h1 (by omega)
  have hd : l.drop (pos + (vput b.length).length) = b ++ r := drop_more (by rw [h, List.append_assoc])
  have hl : pos + (vput b.length).length + b.length ≤ l.length := by
    have h3 := congrArg List.length hd
    simp at h3
    by_cases hb : b.length = 0
    · have h4 := congrArg List.length h
      have := vput_pos b.length
      simp at h4
      omega
    · omega
  unfold rbytes
  rw [h2]
  simp only
  rw [if_neg (by simp), if_neg (by omega), hd, List.take_left]
  simp only [List.length_append, Prod.mk.injEq, true_and, and_true]
  omega

theorem rbyte_one {l r : List UInt8} {pos : Nat} {x : UInt8} (h : l.drop pos = [x] ++ r) : rbyte l pos 0 = (x, pos + 1, 0) := by
  have hl := congrArg List.length h
  simp at hl
  have hx : l[pos]? = some x := by
    have := congrArg (fun z => z[0]?) h
    simpa using this
  unfold rbyte
  rw [if_neg (by simp), if_neg (by omega), hx]
  rfl

theorem fputs_split (l : List Fld) (k : Nat) (s : Fld) (h : l[k]? = some s) : (fputs l).drop (fputs (l.take k)).length = fput s ++ fputs (l.drop (k + 1)) := by
  obtain ⟨hk, hs⟩ := List.getElem?_eq_some_iff.1 h
  have e : l = l.take k ++ s :: l.drop (k + 1) := by
    rw [← hs, ← List.drop_eq_getElem_cons hk, List.take_append_drop]
  conv => lhs; arg 2; rw [e]
  unfold fputs
  rw [List.flatMap_append, List.flatMap_cons, List.drop_left]

/-- a reader of the call's own bytes -/
structure Solo (w : World) (g : Nat) (y : Value) (b : List UInt8) (pos : Nat) (W : World) : Prop where
  r : Rdr W g y b pos 0
  bel : Below w.heap.size w W
  l1 : w.heap.size ≤ g

theorem Solo.below {w W W' : World} {g pos : Nat} {y : Value} {b : List UInt8} (h : Solo w g y b pos W) (hb : Below W.heap.size W W') : Solo w g y b pos W' := ⟨h.r.below hb, h.bel.trans (hb.mono h.bel.size), h.l1⟩
theorem Solo.read {w W W' : World} {g pos pos' : Nat} {y : Value} {b : List UInt8} (h : Solo w g y b pos W) (h1 : Rdr W' g y b pos' 0) (ho : Only (fun k => k = g) W W') : Solo w g y b pos' W' :=
  ⟨h1, h.bel.trans (ho.below (fun k hk => by have := h.l1; omega) h.bel.size), h.l1⟩

set_option maxRecDepth 100000 in
set_option maxHeartbeats 3200000 in
theorem fback_walk (va : Value) (l : List Fld) (w : World) (ha : Fs w va l) :
    Calls Try.prog 11 #[va] w fun e w' => e = .returned (.bool true) ∧ Below w.heap.size w w' := by
  obtain ⟨n, hn⟩ : ∃ n, l.length = n := ⟨_, rfl⟩
  obtain ⟨a, ca, b1, o1, hva, ha1, ha2, ha3, ha4, ha5⟩ := Fs.open_n ha n hn
  subst hva
  have HN := Lib.hid hn
  have HA := Lib.hid ha
  clear hn
  go_enter Try.func11, Try.ntmps11
  go_wp2_with fail
  refine (awake3 _).mono ?_
  rintro e w1 ⟨rfl, hb1⟩
  go_wp2_with fail
  refine (small_any _ l _ (ha.below hb1)).mono ?_
  rintro e w2 ⟨sm, rfl, hS, hb2⟩
  have hw2 := hb1.trans (hb2.mono hb1.size)
  cases sm with
  | false =>
    clear hS
    go_wp2
    go_ret
    exact ⟨rfl, hw2⟩
  | true =>
    have HS := Lib.hid (hS rfl)
    clear hS
    go_wp2_with fail
    refine (written_any _ l _ (ha.below hw2) HS.out.1 HS.out.2).mono ?_
    rintro e w3 ⟨v, u, rfl, hv, hu, hb3⟩
    have hw3 := hw2.trans (hb3.mono hw2.size)
    have hfl : (fputs l).length ≤ 15500 := by
      have := fputs_len l (fun s hs => by
        obtain ⟨i, hi, rfl⟩ := List.getElem_of_mem hs
        exact ⟨(ha.2 i _ (List.getElem?_eq_getElem hi)).2, HS.out.1 _ (List.getElem_mem hi)⟩)
      have := HS.out.2
      omega
    obtain ⟨L, hL⟩ : ∃ L, fputs l = L := ⟨_, rfl⟩
    have HL := Lib.hid hL
    rw [hL] at hv hfl
    go_wp2_with fail
    refine (read_any _ L _ hv.bs).mono ?_
    rintro e w4 ⟨rfl, hr4, hb4⟩
    have hw4 := hw3.trans (hb4.mono hw3.size)
    obtain ⟨vy, cy, hvs⟩ := hv.shape
    subst hvs
    have hT : Solo w w3.heap.size (.slice vy L.length cy) L 0 w4 := ⟨hr4, hw4, hw3.size⟩
    have hg3 := hw3.size
    clear hu hr4 hw4 hb4 hb3 hw2 hb2 hL
    go_wp2
    go_loopw [22] (fun i wr => ∃ (k pos : Nat), k ≤ n ∧ i = .int .i64 k ∧ Hid (pos = (fputs (l.take k)).length) ∧ Solo w w3.heap.size (.slice vy L.length cy) L pos wr) (fun i _ => n - (intOf i).toNat)
    case atStart => exact ⟨0, 0, by omega, rfl, rfl, hT⟩
    case round =>
      obtain ⟨k, pos, hk, rfl, HP, hTw⟩ := hrel
      clear hT
      have hwr := hTw.bel
      have hszr := hwr.size
      have hl1 := hTw.r.lt
      by_cases hlt : k < n
      · obtain ⟨s, hs⟩ : ∃ s, l[k]? = some s := ⟨_, List.getElem?_eq_getElem (by have := HN.out; omega)⟩
        obtain ⟨p0, p1, p2, p3⟩ := ha5 k s hs
        have hbb := ha4 k hlt
        rw [← hwr.cell (by exact hbb)] at p0 p1 p2 p3
        have hbs := (HA.out.2 k s hs).1
        have hwf := (HA.out.2 k s hs).2
        have hsl : s.b.length ≤ 300 := HS.out.1 s (by obtain ⟨h1, h2⟩ := List.getElem?_eq_some_iff.1 hs; rw [← h2]; exact List.getElem_mem h1)
        have hsp := fputs_split l k s hs
        have hsn := fputs_snoc l k s hs
        rw [HL.out, ← HP.out] at hsp
        have hsn2 : (fputs (l.take (k + 1))).length = pos + (fput s).length := by rw [hsn, List.length_append, ← HP.out]
        obtain ⟨av, cv, hv⟩ := hbs.shape
        rw [hv] at p3 hbs
        unfold FWf at hwf
        obtain ⟨⟨k1, k2⟩, ⟨n1, n2⟩, hwm⟩ := hwf
        clear hs ha4 ha5 hv hsn
        obtain ⟨wa, hwa⟩ : ∃ wa, wr.alloc (.cells #[.int .i64 s.k, .int .i64 s.n, .int .i64 s.m, .slice av s.b.length cv] 66) = wa := ⟨_, rfl⟩
        have HWW := Lib.hid hwa
        have hTa : Solo w w3.heap.size (.slice vy L.length cy) L pos wa := by rw [← hwa]; exact hTw.below ((Below.refl _ _).alloc (Nat.le_refl _) _)
        have HWA : Hid (∀ i, wa.cell? ⟨wr.heap.size, i, none⟩ = #[Value.int .i64 s.k, .int .i64 s.n, .int .i64 s.m, .slice av s.b.length cv][i]?) := fun i => by rw [← hwa]; exact World.cell?_alloc_at _ _ _ _ rfl
        have hza : wa.heap.size = wr.heap.size + 1 := by rw [← hwa]; simp
        have HSN := Lib.hid hsn2
        have HSP := Lib.hid hsp
        have HBS := Lib.hid (hbs.below hTa.bel)
        have HSL := Lib.hid hbs.lt
        clear hwa hTw hsn2 hsp hbs
        have dn : wa.cell? ⟨wr.heap.size, 1, none⟩ = some (.int .i64 s.n) := HWA.out 1
        have db : wa.cell? ⟨wr.heap.size, 3, none⟩ = some (.slice av s.b.length cv) := HWA.out 3
        have HTD := Lib.hid (hTa.below (Below.refl _ _).drew)
        by_cases e1 : s.k = 1
        · have q1 : (s.k == 1) = true := by simpa using e1
          by_cases hr : 0 ≤ s.n ∧ s.n ≤ 4611686018427387904
          · obtain ⟨r1, r2⟩ := hr
            obtain ⟨m, hm⟩ : ∃ m : Nat, s.n = m := ⟨s.n.toNat, by omega⟩
            have HF : Hid (fput s = vput m) := by show _ = _; unfold fput; rw [if_pos e1, hm, Int.toNat_natCast]
            have hrn := rnum_vput (most := s.n) (l := L) (pos := pos) (r := fputs (l.drop (k + 1))) (by rw [HSP.out, HF.out]) (by omega) (by omega)
            have hR := fun w h => rnumber_rd s.n w3.heap.size (.slice vy L.length cy) L pos 0 w h
            unfold NumPost at hR
            rw [hrn] at hR
            have hne : ((m : Int) != s.n) = false := by simp; omega
            have HR := Lib.hid hR
            clear e1 hrn hR hm
            go_wp2_with fail
            rw [HWW.out]
            go_region_held3 (fun w' => w'.cell? ⟨wr.heap.size, 1, none⟩ = some (.int .i64 s.n))
              (first | go_keep | exact (only_cell ho5 (by simp; omega) (by simp; omega)).trans dn)
              (first | (go_at_call 46; refine (HR.out _ HTD.out.r).mono ?_; rintro e w5 ⟨rfl, h5, ho5⟩))
            have hT6 := HTD.out.read h5 ho5
            clear dn db
            go_wp2
            go_roundw
            case rel => exact ⟨k + 1, _, by omega, by go_num, (by show _ = _; rw [HSN.out, HF.out]; try rfl), hT6⟩
            case measure => simp [intOf]; omega
          · have e1' := Lib.hid e1
            clear e1
            go_wp2
            all_goals
              go_ret
              exact ⟨rfl, by have := hTa.bel; rwa [← HWW.out] at this⟩
        · have q1 : (s.k == 1) = false := by simpa using e1
          by_cases e2 : s.k = 2
          · have q2 : (s.k == 2) = true := by simpa using e2
            by_cases hr : -4611686018427387904 ≤ s.n ∧ s.n ≤ 4611686018427387904
            · obtain ⟨r1, r2⟩ := hr
              have HF : Hid (fput s = vput (vturn s.n).toNat) := by show _ = _; unfold fput; rw [if_neg e1, if_pos e2]
              have hwn : IntKind.i64.wrap (-s.n) = -s.n := IntWalk.i64_in _ (by omega)
              obtain ⟨M, hM⟩ : ∃ M : Int, (if s.n < -s.n then -s.n else s.n) = M := ⟨_, rfl⟩
              have hM2 : -M ≤ s.n ∧ s.n ≤ M := by rw [← hM]; split <;> omega
              have hrn := rsig_vput (most := M) (l := L) (pos := pos) (r := fputs (l.drop (k + 1))) (s := s.n) (by rw [HSP.out, HF.out]) (by omega) hM2
              have hR := fun w h => rsigned_rd M w3.heap.size (.slice vy L.length cy) L pos 0 w h
              unfold SigPost at hR
              rw [hrn] at hR
              simp only at hR
              rw [vback_vturn s.n n1 n2] at hR
              have HR := Lib.hid hR
              clear e1 e2 hrn hR
              go_wp2_with fail
              rw [HWW.out]
              go_region_held3 (fun w' => w'.cell? ⟨wr.heap.size, 1, none⟩ = some (.int .i64 s.n))
                (first | go_keep | exact (only_cell ho5 (by simp; omega) (by simp; omega)).trans dn)
                (first | (go_at_call 48; refine (HR.out _ HTD.out.r).mono ?_; rintro e w5 ⟨rfl, h5, ho5⟩))
              have hT6 := HTD.out.read h5 ho5
              clear dn db
              go_wp2
              go_roundw
              case rel => exact ⟨k + 1, _, by omega, by go_num, (by show _ = _; rw [HSN.out, HF.out]; try rfl), hT6⟩
              case measure => simp [intOf]; omega
            · have e2' := Lib.hid e2
              clear e1 e2
              go_wp2
              all_goals
                go_ret
                exact ⟨rfl, by have := hTa.bel; rwa [← HWW.out] at this⟩
          · have q2 : (s.k == 2) = false := by simpa using e2
            by_cases e3 : s.k = 3
            · have q3 : (s.k == 3) = true := by simpa using e3
              have HF : Hid (fput s = [UInt8.ofNat (s.n % 256).toNat]) := by show _ = _; unfold fput; rw [if_neg e1, if_neg e2, if_pos e3]
              have hrn := rbyte_one (l := L) (pos := pos) (r := fputs (l.drop (k + 1))) (x := UInt8.ofNat (s.n % 256).toNat) (by rw [HSP.out, HF.out])
              have hR := fun w h => rbyte_rd w3.heap.size (.slice vy L.length cy) L pos 0 w h
              unfold BytePost at hR
              rw [hrn] at hR
              simp only at hR
              rw [u8_int] at hR
              have hu8 : IntKind.u8.wrap s.n = s.n % 256 := by rw [IntKind.wrap_u8]
              have HR := Lib.hid hR
              clear e1 e2 e3 hrn hR
              go_wp2_with fail
              rw [HWW.out]
              go_region_held3 (fun w' => w'.cell? ⟨wr.heap.size, 1, none⟩ = some (.int .i64 s.n))
                (first | go_keep | exact (only_cell ho5 (by simp; omega) (by simp; omega)).trans dn)
                (first | (go_at_call 50; refine (HR.out _ HTD.out.r).mono ?_; rintro e w5 ⟨rfl, h5, ho5⟩))
              have hT6 := HTD.out.read h5 ho5
              clear dn db
              go_wp2
              go_roundw
              case rel => exact ⟨k + 1, _, by omega, by go_num, (by show _ = _; rw [HSN.out, HF.out]; try rfl), hT6⟩
              case measure => simp [intOf]; omega
            · have q3 : (s.k == 3) = false := by simpa using e3
              by_cases e4 : s.k = 4
              · have q4 : (s.k == 4) = true := by simpa using e4
                have HF : Hid (fput s = vput s.b.length ++ s.b) := by show _ = _; unfold fput; rw [if_neg e1, if_neg e2, if_neg e3, if_pos e4]
                have hrn := rbytes_vput (l := L) (pos := pos) (r := fputs (l.drop (k + 1))) (b := s.b) (by rw [HSP.out, HF.out]) (by omega)
                have hR := fun w h => rbytes_rd (s.b.length : Int) w3.heap.size (.slice vy L.length cy) L pos 0 w h (by omega)
                unfold BytesPost at hR
                rw [hrn] at hR
                simp only at hR
                have HR := Lib.hid hR
                clear e1 e2 e3 e4 hrn hR
                go_wp2_with fail
                rw [HWW.out]
                go_region_held3 (fun w' => w'.cell? ⟨wr.heap.size, 3, none⟩ = some (.slice av s.b.length cv))
                  (first | go_keep | exact (only_cell ho5 (by simp; omega) (by simp; omega)).trans db | exact (hb7.cell (p := ⟨wr.heap.size, 3, none⟩) (by have := ho5.size; simp at *; omega)).trans ((only_cell ho5 (by simp; omega) (by simp; omega)).trans db))
                  (first | (go_at_call 52; refine (HR.out _ HTD.out.r).mono ?_; rintro e w5 ⟨v5, rfl, hv5, h5, ho5⟩) | (go_at_call 16; refine (same_any _ _ _ _ _ hv5.bs ((HBS.out.drew).only' ho5 (fun hl j hj e => by have h1 := HSL.out hl j hj; have e1 : j = w3.heap.size := e; omega))).mono ?_; rintro e w7 ⟨rfl, hb7⟩))
                have hT6 := (HTD.out.read h5 ho5).below hb7
                clear dn db
                go_wp2
                go_roundw
                case rel => exact ⟨k + 1, _, by omega, by go_num, (by show _ = _; rw [HSN.out, HF.out]; try rfl), hT6⟩
                case measure => simp [intOf]; omega
              · have q4 : (s.k == 4) = false := by simpa using e4
                have HF : Hid (fput s = []) := by show _ = _; unfold fput; rw [if_neg e1, if_neg e2, if_neg e3, if_neg e4]
                clear e1 e2 e3 e4
                go_wp2
                rw [HWW.out]
                go_roundw
                case rel => exact ⟨k + 1, _, by omega, by go_num, (by show _ = _; rw [HSN.out, HF.out]; rfl), hTa⟩
                case measure => simp [intOf]; omega
      · have htake : l.take k = l := List.take_of_length_le (by have := HN.out; omega)
        have hp := HP.out
        rw [htake, HL.out] at hp
        have hd : rdone L pos 0 = 0 := by unfold rdone; rw [if_neg (by omega)]
        have HD := Lib.hid hd
        have hT := Lib.hid hTw
        have hn0 : n = 0 → L.length = 0 := fun h => by
          have h1 := HN.out
          rw [h] at h1
          rw [← HL.out, List.eq_nil_of_length_eq_zero h1]
          rfl
        have HN0 := Lib.hid hn0
        clear htake hp hd hTw hn0
        rcases (show n = 0 ∨ 0 < n by omega) with h0 | h0
        · have hq : ((L.length : Int) == 0) = true := beq_iff_eq.2 (by have := HN0.out h0; omega)
          have hz : decide (0 < n) = false := by simp; omega
          have H0 := Lib.hid h0
          clear h0
          go_wp2_with fail
          refine (rdone_any _ _ L pos 0 _ hT.out.r).mono ?_
          rintro e w5 ⟨rfl, hb5⟩
          rw [HD.out]
          have hT5 := hT.out.below hb5
          go_wp2_with fail
          refine (rerror_any _ _ L pos 0 _ hT5.r).mono ?_
          rintro e w6 ⟨rfl, rfl⟩
          go_wp2
          go_ret
          exact ⟨rfl, hT5.bel⟩
        · have hz : decide (0 < n) = true := by simp; omega
          go_wp2_with fail
          refine (rdone_any _ _ L pos 0 _ hT.out.r).mono ?_
          rintro e w5 ⟨rfl, hb5⟩
          rw [HD.out]
          have hT5 := hT.out.below hb5
          go_wp2_with fail
          refine (rerror_any _ _ L pos 0 _ hT5.r).mono ?_
          rintro e w6 ⟨rfl, rfl⟩
          go_wp2
          go_ret
          exact ⟨rfl, hT5.bel⟩

end Go.Proofs.Ytkgfcaoeldfbdaa
