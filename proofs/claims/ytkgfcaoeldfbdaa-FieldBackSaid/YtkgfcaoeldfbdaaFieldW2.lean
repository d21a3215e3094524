/- Walks of the statement FieldWrites: what is written; the law. -/
import Derived.Test.YtkgfcaoeldfbdaaFieldW
namespace Go.Proofs.Ytkgfcaoeldfbdaa
open Go.RowKit

theorem fputs_snoc (l : List Fld) (k : Nat) (s : Fld) (h : l[k]? = some s) : fputs (l.take (k + 1)) = fputs (l.take k) ++ fput s := by
  rw [List.take_add_one, h]
  simp [fputs]

theorem u8_int (n : Int) : ((UInt8.ofNat (n % 256).toNat).toNat : Int) = n % 256 := by
  rw [UInt8.toNat_ofNat']
  omega

def WrittenPost (l : List Fld) (w : World) (e : Ending) (w' : World) : Prop :=
  ∃ v u, e = .returned (.tuple #[v, u]) ∧ Ob w' w.heap.size 5 v (fputs l) ∧ Ob w' w.heap.size 5 u (fputs l) ∧ Below w.heap.size w w'

set_option maxRecDepth 100000 in
set_option maxHeartbeats 1600000 in
theorem written_any (va : Value) (l : List Fld) (w : World) (ha : Fs w va l) (hb : ∀ s ∈ l, s.b.length ≤ 300) (hl : l.length ≤ 50) : Calls Try.prog 40 #[va] w (WrittenPost l w) := by
  obtain ⟨n, hn⟩ : ∃ n, l.length = n := ⟨_, rfl⟩
  obtain ⟨a, ca, b1, o1, rfl, ha1, ha2, ha3, ha4, ha5⟩ := Fs.open_n ha n hn
  have HA := Lib.hid ha.2
  clear ha
  have HB := Lib.hid hb
  clear hb
  rw [hn] at hl
  have HN := Lib.hid hn
  clear hn
  go_enter Try.func40, Try.ntmps40
  go_wp2
  go_loopw [5, 12] (fun u i wr => ∃ (k : Nat) (v : Value), k ≤ n ∧ i = .int .i64 k ∧ Two wr w.heap.size w.heap.size v u (fputs (l.take k)) (fputs (l.take k)) ∧ Below w.heap.size w wr) (fun _ i _ => n - (intOf i).toNat)
  case atStart =>
    refine ⟨0, .slice none 0 0, by omega, rfl, ⟨⟨Nat.le_refl _, heap_alloc_new w _, ?_⟩, ?_, ?_⟩, (Below.refl _ _).alloc (Nat.le_refl _) _⟩
    · exact Ob.nil _ _ _
    · exact Ob.nil _ _ _
    · intro k hk; simp [Value.ownBlock] at hk
  case round =>
    obtain ⟨k, v, hk, rfl, hT, hw⟩ := hrel
    have hsz := hw.size
    have hfl : (fputs (l.take k)).length ≤ 15500 := by
      have := fputs_len (l.take k) (fun s hs => by
        obtain ⟨i, hi, rfl⟩ := List.getElem_of_mem (List.mem_of_mem_take hs)
        exact ⟨(HA.out i _ (List.getElem?_eq_getElem hi)).2, HB.out _ (List.getElem_mem hi)⟩)
      rw [List.length_take] at this
      have := HN.out
      omega
    by_cases hlt : k < n
    · obtain ⟨s, hs⟩ : ∃ s, l[k]? = some s := ⟨_, List.getElem?_eq_getElem (by have := HN.out; omega)⟩
      obtain ⟨p0, p1, p2, p3⟩ := ha5 k s hs
      rw [← hw.cell (by exact ha4 k hlt)] at p0 p1 p2 p3
      have hbs := (HA.out k s hs).1
      have hwf := (HA.out k s hs).2
      have hsl : s.b.length ≤ 300 := HB.out s (by obtain ⟨h1, h2⟩ := List.getElem?_eq_some_iff.1 hs; rw [← h2]; exact List.getElem_mem h1)
      obtain ⟨av, cv, hv⟩ := hbs.shape
      rw [hv] at p3 hbs
      have hsn := Lib.hid (fputs_snoc l k s hs)
      unfold FWf at hwf
      obtain ⟨⟨k1, k2⟩, ⟨n1, n2⟩, ⟨m1, m2⟩⟩ := hwf
      clear hs ha4 ha5 hv
      have hbl : Below wr.heap.size wr (wr.alloc (.cells #[.int .i64 s.k, .int .i64 s.n, .int .i64 s.m, .slice av s.b.length cv] 66)) := (Below.refl _ _).alloc (Nat.le_refl _) _
      have hT1 := Lib.hid (hT.below hbl)
      have hfoot : Hid (∀ k, wrF w.heap.size v k → k < wr.heap.size) := fun k hk => (hT.wr.foot k hk).2
      clear hT
      have hwW := hw.trans (hbl.mono hsz)
      have hszW := hwW.size
      have hWs : (wr.alloc (.cells #[.int .i64 s.k, .int .i64 s.n, .int .i64 s.m, .slice av s.b.length cv] 66)).heap.size = wr.heap.size + 1 := by simp
      have hWc : ∀ i, (wr.alloc (.cells #[.int .i64 s.k, .int .i64 s.n, .int .i64 s.m, .slice av s.b.length cv] 66)).cell? ⟨wr.heap.size, i, none⟩ = #[Value.int .i64 s.k, .int .i64 s.n, .int .i64 s.m, .slice av s.b.length cv][i]? := fun i => World.cell?_alloc_at _ _ _ _ rfl
      have HWc := Lib.hid hWc
      clear hWc
      by_cases e1 : s.k = 1
      · have q1 : (s.k == 1) = true := by simpa using e1
        have HF : Hid (fput s = vput s.n.toNat) := by show _ = _; unfold fput; rw [if_pos e1]
        clear e1
        have hvl := vput_len10 s.n.toNat (by omega)
        go_wp2_with fail
        refine (wNumber_any s.n n1 n2 _ v _ _ _ hT1.out.wr hszW (by omega)).mono ?_
        rintro e w2 ⟨rfl, v2, hw2⟩
        have HW2 := Lib.hid hw2
        clear hw2
        have hT2 := Lib.hid (hT1.out.wrote HW2.out)
        have c1 : w2.cell? ⟨wr.heap.size, 1, none⟩ = some (.int .i64 s.n) := (only_cell HW2.out.only (fun h => by have := hfoot.out _ h; simp at this) (by simp)).trans (HWc.out 1)
        have hb2 := hwW.trans (HW2.out.bel hT1.out.wr hszW)
        go_wp2_with fail
        refine (rnumber_any s.n n1 n2 _).mono ?_
        rintro e w3 ⟨v3, rfl, ho3, hb3⟩
        have hT3 := hT2.out.below hb3
        have hb3' := hb2.trans (hb3.mono hb2.size)
        clear c1
        have hs3 := hb3'.size
        go_wp2_with (at_builtin; go_must (refine wpList_append_bytes_mv hT3.ob ho3.bs elB (by omega) (by omega) hs3 ?_ _ _ rfl rfl rfl rfl); intro u4 w4 ho4 hg4 hm4; have HT4 := Lib.hid (hT3.appended ho4 hg4 hm4); have hb4 := hb3'.trans (hT3.bel hg4 hs3); clear ho4 hg4 hm4)
        go_roundw
        case rel =>
          refine ⟨k + 1, v2, by omega, by go_num, ?_, hb4⟩
          rw [hsn.out, HF.out]
          exact HT4.out
        case measure => simp [intOf]; omega
      · have q1 : (s.k == 1) = false := by simpa using e1
        by_cases e2 : s.k = 2
        · have q2 : (s.k == 2) = true := by simpa using e2
          have HF : Hid (fput s = vput (vturn s.n).toNat) := by show _ = _; unfold fput; rw [if_neg e1, if_pos e2]
          clear e1 e2
          have hvr := vturn_range s.n n1 n2
          have hvl := vput_len10 (vturn s.n).toNat (by omega)
          go_wp2_with fail
          refine (wSigned_any s.n n1 n2 _ v _ _ _ hT1.out.wr hszW (by omega)).mono ?_
          rintro e w2 ⟨rfl, v2, hw2⟩
          have HW2 := Lib.hid hw2
          clear hw2
          have hT2 := Lib.hid (hT1.out.wrote HW2.out)
          have c1 : w2.cell? ⟨wr.heap.size, 1, none⟩ = some (.int .i64 s.n) := (only_cell HW2.out.only (fun h => by have := hfoot.out _ h; simp at this) (by simp)).trans (HWc.out 1)
          have hb2 := hwW.trans (HW2.out.bel hT1.out.wr hszW)
          go_wp2_with fail
          refine (rsigned_any s.n n1 n2 _).mono ?_
          rintro e w3 ⟨v3, rfl, ho3, hb3⟩
          have hT3 := hT2.out.below hb3
          have hb3' := hb2.trans (hb3.mono hb2.size)
          clear c1
          have hs3 := hb3'.size
          go_wp2_with (at_builtin; go_must (refine wpList_append_bytes_mv hT3.ob ho3.bs elB (by omega) (by omega) hs3 ?_ _ _ rfl rfl rfl rfl); intro u4 w4 ho4 hg4 hm4; have HT4 := Lib.hid (hT3.appended ho4 hg4 hm4); have hb4 := hb3'.trans (hT3.bel hg4 hs3); clear ho4 hg4 hm4)
          go_roundw
          case rel =>
            refine ⟨k + 1, v2, by omega, by go_num, ?_, hb4⟩
            rw [hsn.out, HF.out]
            exact HT4.out
          case measure => simp [intOf]; omega
        · have q2 : (s.k == 2) = false := by simpa using e2
          by_cases e3 : s.k = 3
          · have q3 : (s.k == 3) = true := by simpa using e3
            have HF : Hid (fput s = [UInt8.ofNat (s.n % 256).toNat]) := by show _ = _; unfold fput; rw [if_neg e1, if_neg e2, if_pos e3]
            clear e1 e2 e3
            obtain ⟨x, hx⟩ : ∃ x, x = UInt8.ofNat (s.n % 256).toNat := ⟨_, rfl⟩
            rw [← hx] at HF
            have hxn : s.n % 256 = (x.toNat : Int) := by rw [hx, u8_int]
            have HX := Lib.hid hxn
            clear hx hxn
            go_wp2_with fail
            refine (wByte_any x _ HX.out _ v _ _ _ hT1.out.wr hszW (by omega)).mono ?_
            rintro e w2 ⟨rfl, v2, hw2⟩
            have HW2 := Lib.hid hw2
            clear hw2
            have hT2 := Lib.hid (hT1.out.wrote HW2.out)
            have c1 : w2.cell? ⟨wr.heap.size, 1, none⟩ = some (.int .i64 s.n) := (only_cell HW2.out.only (fun h => by have := hfoot.out _ h; simp at this) (by simp)).trans (HWc.out 1)
            have hb2 := hwW.trans (HW2.out.bel hT1.out.wr hszW)
            have hbl3 : Below w2.heap.size w2 (w2.alloc (.cells #[.int .u8 (s.n % 256)] 5)) := (Below.refl _ _).alloc (Nat.le_refl _) _
            have hT3 := hT2.out.below hbl3
            have hb3' := hb2.trans (hbl3.mono hb2.size)
            have hs3 := hb3'.size
            have hsrc := (ob_lit w2 5 #[.int .u8 (s.n % 256)] [x] 1 rfl (by simp [maxLen]) (by simp [bv, HX.out])).bs
            go_wp2_with (at_builtin; go_must (refine wpList_append_bytes_mv hT3.ob hsrc elB (by simp; omega) (by simp; omega) hs3 ?_ _ _ rfl rfl rfl rfl); intro u4 w4 ho4 hg4 hm4; have HT4 := Lib.hid (hT3.appended ho4 hg4 hm4); have hb4 := hb3'.trans (hT3.bel hg4 hs3); clear ho4 hg4 hm4)
            go_roundw
            case rel =>
              refine ⟨k + 1, v2, by omega, by go_num, ?_, hb4⟩
              rw [hsn.out, HF.out]
              exact HT4.out
            case measure => simp [intOf]; omega
          · have q3 : (s.k == 3) = false := by simpa using e3
            by_cases e4 : s.k = 4
            · have q4 : (s.k == 4) = true := by simpa using e4
              have HF : Hid (fput s = vput s.b.length ++ s.b) := by show _ = _; unfold fput; rw [if_neg e1, if_neg e2, if_neg e3, if_pos e4]
              clear e1 e2 e3 e4
              have hvl := vput_len10 s.b.length (by omega)
              have hd : s.b ≠ [] → ∀ j, (Value.slice av s.b.length cv).ownBlock = some j → ¬ wrF w.heap.size v j := fun hne j hj hf => by
                have h1 := hbs.lt hne j hj
                have h2 := (hT1.out.wr.foot j hf).1
                omega
              go_wp2_with fail
              refine (wBytes_any _ s.b _ v _ _ _ hT1.out.wr (hbs.below hwW) hd hszW (by omega) (by omega)).mono ?_
              rintro e w2 ⟨rfl, v2, hw2⟩
              have HW2 := Lib.hid hw2
              clear hw2
              have hT2 := Lib.hid (hT1.out.wrote HW2.out)
              have c3 : w2.cell? ⟨wr.heap.size, 3, none⟩ = some (.slice av s.b.length cv) := (only_cell HW2.out.only (fun h => by have := hfoot.out _ h; simp at this) (by simp)).trans (HWc.out 3)
              have hb2 := hwW.trans (HW2.out.bel hT1.out.wr hszW)
              go_wp2_with fail
              refine (rbytes_any _ s.b _ (hbs.below hb2) (by omega)).mono ?_
              rintro e w3 ⟨v3, rfl, ho3, hb3⟩
              have hT3 := hT2.out.below hb3
              have hb3' := hb2.trans (hb3.mono hb2.size)
              clear c3
              have hs3 := hb3'.size
              go_wp2_with (at_builtin; go_must (refine wpList_append_bytes_mv hT3.ob ho3.bs elB (by simp; omega) (by simp; omega) hs3 ?_ _ _ rfl rfl rfl rfl); intro u4 w4 ho4 hg4 hm4; have HT4 := Lib.hid (hT3.appended ho4 hg4 hm4); have hb4 := hb3'.trans (hT3.bel hg4 hs3); clear ho4 hg4 hm4)
              go_roundw
              case rel =>
                refine ⟨k + 1, v2, by omega, by go_num, ?_, hb4⟩
                rw [hsn.out, HF.out]
                exact HT4.out
              case measure => simp [intOf]; omega
            · have q4 : (s.k == 4) = false := by simpa using e4
              have HF : Hid (fput s = []) := by show _ = _; unfold fput; rw [if_neg e1, if_neg e2, if_neg e3, if_neg e4]
              clear e1 e2 e3 e4
              go_wp2
              go_roundw
              case rel =>
                refine ⟨k + 1, v, by omega, by go_num, ?_, hwW⟩
                rw [hsn.out, HF.out, List.append_nil]
                exact hT1.out
              case measure => simp [intOf]; omega
    · have htake : l.take k = l := List.take_of_length_le (by have := HN.out; omega)
      rw [htake] at hT hfl
      have HT := Lib.hid hT
      clear htake hT
      go_wp2_with fail
      refine (wOut_any _ v _ _ wr HT.out.wr (by omega)).mono ?_
      rintro e w2 ⟨v2, rfl, ho2, hb2⟩
      have hT2 := HT.out.below hb2
      have HO2 := Lib.hid ho2
      have HT2 := Lib.hid hT2
      clear ho2 hT2
      go_wp2
      go_ret2
      exact ⟨_, _, rfl, HO2.out.mono hsz, HT2.out.ob, hw.trans (hb2.mono hsz)⟩


set_option maxRecDepth 100000 in
theorem writes_walk (va : Value) (l : List Fld) (w : World) (ha : Fs w va l) :
    Calls Try.prog 9 #[va] w fun e w' => e = .returned (.bool true) ∧ Below w.heap.size w w' := by
  have HA := Lib.hid ha
  clear ha
  go_enter Try.func9, Try.ntmps9
  go_wp2_with fail
  refine (awake3 _).mono ?_
  rintro e w1 ⟨rfl, hb1⟩
  go_wp2_with fail
  refine (small_any _ l _ (HA.out.below hb1)).mono ?_
  rintro e w2 ⟨b, rfl, hS, hb2⟩
  have hw2 := hb1.trans (hb2.mono hb1.size)
  cases b with
  | false =>
    clear hS
    go_wp2
    go_ret
    exact ⟨rfl, hw2⟩
  | true =>
    have HS := Lib.hid (hS rfl)
    clear hS
    go_wp2_with fail
    refine (written_any _ l _ (HA.out.below hw2) HS.out.1 HS.out.2).mono ?_
    rintro e w3 ⟨v, u, rfl, hv, hu, hb3⟩
    have hw3 := hw2.trans (hb3.mono hw2.size)
    have hfl : (fputs l).length ≤ 15500 := by
      have := fputs_len l (fun s hs => by
        obtain ⟨i, hi, rfl⟩ := List.getElem_of_mem hs
        exact ⟨(HA.out.2 i _ (List.getElem?_eq_getElem hi)).2, HS.out.1 _ (List.getElem_mem hi)⟩)
      have := HS.out.2
      omega
    go_wp2_with (first | (go_at_call 41; refine (wNumber_nil 5 (by omega) (by omega) _).mono ?_; rintro e w4 ⟨rfl, hb4⟩; have hw4 := hw3.trans (hb4.mono hw3.size)) | (go_at_call 42; refine (wBytes_nil _ _ _ (hv.bs.below hb4) (by omega)).mono ?_; rintro e w5 ⟨rfl, hb5⟩; have hw5 := hw4.trans (hb5.mono hw4.size)) | (go_at_call 16; refine (same_any _ _ (fputs l) (fputs l) _ ((hv.bs.below hb4).below hb5) ((hu.bs.below hb4).below hb5)).mono ?_; rintro e w6 ⟨rfl, hb6⟩; rw [beq_self_true]; have hw6 := hw5.trans (hb6.mono hw5.size)) | (go_at_call 43; refine (wOut_nil _).mono ?_; rintro e w7 ⟨rfl, hb7⟩; have hw7 := hw6.trans (hb7.mono hw6.size)))
    go_ret
    exact ⟨rfl, hw7⟩

end Go.Proofs.Ytkgfcaoeldfbdaa
