/- This text holds the walk of the program's UseTile. -/
import Derived.Test.YtcogkglkioejaaaUse2
import Derived.Test.YtcogkglkioejaaaUBox
namespace Go.Proofs.Ytcogkglkioejaaa
open Go.RowKit Go.Maps

theorem nodup_at {L : List T3} (h : L.Nodup) {i j : Nat} (hi : i < L.length) (hj : j < L.length) (e : L[i] = L[j]) : i = j := by
  have h1 := ix_nodup h hi
  have h2 := ix_nodup h hj
  rw [e] at h1
  omega
theorem Ages.ext {w w' : World} {b n : Nat} {L : List T3} {age : T3 → Int} (h : Ages w b n L age) (e : Ext w w') : Ages w' b n L age := by
  obtain ⟨D, ⟨es, clock, hb, r⟩, hD⟩ := h
  exact ⟨D, ⟨es, clock, (e.block (Array.getElem?_eq_some_iff.1 hb).1).trans hb, r⟩, hD⟩
theorem use_sorted {L : List T3} {age : T3 → Int} {t : T3} (hn : L.Nodup) (h : ∀ i (h : i < L.length), i < L.length → age L[i] = i) : (L.erase t ++ [t]).Pairwise fun p q => bump age t L.length p < bump age t L.length q := by
  rw [List.pairwise_append]
  refine ⟨?_, by simp, ?_⟩
  · have hs := (AgSt.sorted h).sublist (List.erase_sublist (a := t) (l := L))
    refine hs.imp_of_mem (fun {a b} ha hb hlt => ?_)
    have na : a ≠ t := fun e => hn.not_mem_erase (e ▸ ha)
    have nb : b ≠ t := fun e => hn.not_mem_erase (e ▸ hb)
    unfold bump
    rw [if_neg na, if_neg nb]
    exact hlt
  · intro a ha b hb
    simp at hb
    subst hb
    have na : a ≠ b := fun e => hn.not_mem_erase (e ▸ ha)
    obtain ⟨i, hi, rfl⟩ := List.getElem_of_mem (List.mem_of_mem_erase ha)
    unfold bump
    rw [if_neg na, if_pos rfl, h i hi hi]
    omega
set_option maxRecDepth 10000 in
set_option maxHeartbeats 3200000 in
theorem iUseTile_any (lo : Nat) (v : Value) (C : CV) (t : T3) (w : World) (hv : CO lo w v C) (ht : t.I) (hL : C.L.length < 100000000) :
    Calls Try.prog 29 #[v, t.val] w fun e w' => ∃ r, e = .returned r ∧ CO w.heap.size w' r (C.use t) ∧ Ext w w' := by
  have HV := hid hv
  obtain ⟨tv, rfl, hu, hr, hl⟩ := hv
  have HU := hid hu
  obtain ⟨ta, tc, rfl, _⟩ := hu.form
  rw [TLof_n] at *
  clear hu
  unfold T3.val
  cases hok : C.ok
  · have hus : C.use t = C := by unfold CV.use; rw [hok]; rfl
    rw [hus]
    have HK := hid hok
    clear hok hus
    go_enter Try.func29, Try.ntmps29
    go_wp2_with fail
    refine (iIsValidCache_any lo _ _ C _ ((HV.out.ext (by repeat (with_reducible (first | assumption | exact Ext.refl _ | apply Ext.alloc | apply Ext.drew | apply Ext.drewN)))).R) (Nat.le_refl _)).mono ?_
    rintro e w1 ⟨rfl, x1⟩
    rw [HK.out]
    have z1 := x1.size
    simp at z1
    have c0 := x1.cells.1 w.heap.size 0 (by simp; omega)
    have c1 := x1.cells.1 w.heap.size 1 (by simp; omega)
    have c2 := x1.cells.1 w.heap.size 2 (by simp; omega)
    have p0 := x1.cells.1 (w.heap.size + 1 + 1) 0 (by simp)
    have p1 := x1.cells.1 (w.heap.size + 1 + 1) 1 (by simp)
    have p2 := x1.cells.1 (w.heap.size + 1 + 1) 2 (by simp)
    have f0 := x1.cells.2 (w.heap.size + 1 + 1) 0 (by simp)
    have f1 := x1.cells.2 (w.heap.size + 1 + 1) 1 (by simp)
    have f2 := x1.cells.2 (w.heap.size + 1 + 1) 2 (by simp)
    simp [go_sem] at c0 c1 c2 p0 p1 p2 f0 f1 f2
    have s1 : w.heap.size < w1.heap.size := by omega
    have X1 := hid (show Ext w w1 from Ext.trans (by repeat (with_reducible (first | assumption | exact Ext.refl _ | apply Ext.alloc | apply Ext.drew | apply Ext.drewN))) x1)
    clear x1
    go_wp2_with fail
    refine (copyCache_any lo _ C _ (HV.out.ext X1.out) hL).mono ?_
    rintro e w2 ⟨r, rfl, hO, x2⟩
    have p0 := (x2.cells.1 (w.heap.size + 1 + 1) 0 (by omega)).trans p0
    have p1 := (x2.cells.1 (w.heap.size + 1 + 1) 1 (by omega)).trans p1
    have p2 := (x2.cells.1 (w.heap.size + 1 + 1) 2 (by omega)).trans p2
    have f0 := (x2.cells.2 (w.heap.size + 1 + 1) 0 (by omega)).trans f0
    have f1 := (x2.cells.2 (w.heap.size + 1 + 1) 1 (by omega)).trans f1
    have f2 := (x2.cells.2 (w.heap.size + 1 + 1) 2 (by omega)).trans f2
    have z2 := x2.size
    have s2 : w.heap.size + 1 + 1 < w2.heap.size := by omega
    obtain ⟨rv, rfl, hro, -⟩ := hO
    obtain ⟨ra, rc, rfl, _⟩ := hro.form
    rw [TLof_n] at *
    have HX := hid (X1.out.trans x2)
    have HR := hid (hro.low (show w.heap.size + 1 + 1 + 1 ≤ w1.heap.size from z1))
    clear x2 hro c0 c1 c2 X1
    go_wp2
    refine bodyPost_ret (v := .agg #[.int .i64 C.room, .slice ra C.L.length rc, .int .i64 C.loads]) (by simp [results, Try.results29, go_sem, *]) rfl ⟨_, rfl, ⟨_, rfl, ?_, hr, hl⟩, ?_⟩
    · exact (((HR.out.setLow (by simp) _).setLow (by simp) _).setLow (by simp) _).low (by omega)
    · exact ((HX.out.setCell (by simp; omega) _).setCell (by simp; omega) _).setCell (by simp; omega) _
  · have HK := hid hok
    clear hok
    go_enter Try.func29, Try.ntmps29
    go_wp2_with fail
    refine (iIsValidCache_any lo _ _ C _ ((HV.out.ext (by repeat (with_reducible (first | assumption | exact Ext.refl _ | apply Ext.alloc | apply Ext.drew | apply Ext.drewN)))).R) (Nat.le_refl _)).mono ?_
    rintro e w1 ⟨rfl, x1⟩
    rw [HK.out]
    have z1 := x1.size
    simp at z1
    have c0 := x1.cells.1 w.heap.size 0 (by simp; omega)
    have c1 := x1.cells.1 w.heap.size 1 (by simp; omega)
    have c2 := x1.cells.1 w.heap.size 2 (by simp; omega)
    have d0 := x1.cells.1 (w.heap.size + 1) 0 (by simp)
    have d1 := x1.cells.1 (w.heap.size + 1) 1 (by simp)
    have d2 := x1.cells.1 (w.heap.size + 1) 2 (by simp)
    have p0 := x1.cells.1 (w.heap.size + 1 + 1) 0 (by simp)
    have p1 := x1.cells.1 (w.heap.size + 1 + 1) 1 (by simp)
    have p2 := x1.cells.1 (w.heap.size + 1 + 1) 2 (by simp)
    have f0 := x1.cells.2 (w.heap.size + 1 + 1) 0 (by simp)
    have f1 := x1.cells.2 (w.heap.size + 1 + 1) 1 (by simp)
    have f2 := x1.cells.2 (w.heap.size + 1 + 1) 2 (by simp)
    simp [go_sem] at c0 c1 c2 d0 d1 d2 p0 p1 p2 f0 f1 f2
    have s1 : w.heap.size < w1.heap.size := by omega
    have X1 := hid (show Ext w w1 from Ext.trans (by repeat (with_reducible (first | assumption | exact Ext.refl _ | apply Ext.alloc | apply Ext.drew | apply Ext.drewN))) x1)
    clear x1
    go_wp2_with fail
    refine wp_region_stages [([1, 2], 0), ([3], 4)] 4 (w1.heap.size) (by kernel_rfl) (by kernel_rfl) ?_
    refine wpStages_cons ?_
    simp only [List.filterMap_cons, List.filterMap_nil, List.getElem?_toArray, List.getElem?_cons_zero, List.getElem?_cons_succ]
    show wpQuiet _ _ _ _ [_, _] _
    repeat (go_big_quiet_step (fail))
    refine wpQuiet_nil ⟨_, rfl, fun K hK => ?_⟩
    have hmk := run_makeMap (P := Try.prog) 92 w1.drew
    go_wp2
    refine hK _ _ (.inr (fun b _ hb => ?_)) ?_
    · exact (((Ext.refl w1).drew).alloc _).block hb
    clear hK K hmk
    refine wpStages_cons ?_
    simp only [List.filterMap_cons, List.filterMap_nil, List.getElem?_toArray, List.getElem?_cons_zero, List.getElem?_cons_succ]
    show wpQuiet _ _ _ _ [_] _
    repeat (go_big_quiet_step (fail))
    refine wpQuiet_nil ⟨_, rfl, fun K hK => ?_⟩
    go_wp2
    refine hK _ _ (.inl trivial) ?_
    clear hK K
    refine wpStages_nil ?_
    have hm0 : Ages (w1.drew.alloc (.map #[] 0)) w1.heap.size 0 [] (fun _ => 0) := ⟨_, World.ownsMap_made w1.drew _ _ _, AgesD.nil⟩
    have hub0 : UB w (w1.alloc (.map #[] 0)).drew C t ta tc := by
      have h1 : UB w w1 C t ta tc := ⟨X1.out, by omega, c0, c1, c2, d0, d1, d2, p0, p1, p2, f0, f1, f2⟩
      exact h1.to (((Ext.refl w1).alloc _).drew)
    generalize hW : (w1.alloc (.map #[] 0)).drew = w2 at hub0 ⊢
    have hm2 : Ages w2 w1.heap.size 0 [] (fun _ => 0) := hW ▸ hm0
    have hbl : w.heap.size + 3 ≤ w1.heap.size := z1
    generalize w1.heap.size = b at hm2 hbl ⊢
    clear hm0 hW c0 c1 c2 d0 d1 d2 p0 p1 p2 f0 f1 f2 s1 X1 z1
    have HB := hid hub0
    have u1 := hub0.c1
    have s0 := hub0.lt
    clear hub0
    go_wp2_with fail
    have hnd : C.L.Nodup := by
      have h := HK.out
      unfold CV.ok at h
      simp only [Bool.and_eq_true, decide_eq_true_eq] at h
      exact h.2
    have hrm : (C.L.length : Int) ≤ C.room ∧ C.room ≤ 12 ∧ 1 ≤ C.room ∧ 0 ≤ C.loads ∧ C.loads ≤ 1000000000 := by
      have h := HK.out
      unfold CV.ok at h
      simp only [Bool.and_eq_true, decide_eq_true_eq, inB_iff] at h
      omega
    go_loopw [22] (fun i wr => ∃ k : Nat, k ≤ C.L.length ∧ i = .int .i64 k ∧ UB w wr C t ta tc ∧ ∃ age, Ages wr b k (C.L.take k) age ∧ ∀ i (h : i < C.L.length), i < k → age C.L[i] = i) (fun i _ => C.L.length - (intOf i).toNat)
    case atStart => exact ⟨0, by omega, rfl, HB.out, _, hm2, fun i _ h => by omega⟩
    case round =>
      obtain ⟨k, hk, rfl, hub, age, hag, hage⟩ := hrel
      clear HB u1 s0 hm2
      have HB := hid hub
      have HA := hid hag
      have HE := hid hage
      have s0 := hub.lt
      clear hub hag hage
      by_cases hlt : k < C.L.length
      · obtain ⟨a', cap', e', HF⟩ := Flats.open (HU.out.ext HB.out.ext).R
        obtain ⟨rfl, -, rfl⟩ : ta = a' ∧ True ∧ tc = cap' := by simp at e'; exact ⟨e'.1, trivial, by omega⟩
        clear e'
        obtain ⟨g, off, rfl, hb1, hb2, hc⟩ := HF.at hlt (by decide)
        have c0 := hc 0 (by decide)
        have c1 := hc 1 (by decide)
        have c2 := hc 2 (by decide)
        obtain ⟨e0, e1, e2⟩ := TLof_at hlt
        simp only [Nat.add_zero] at c0
        rw [e0] at c0
        rw [e1] at c1
        rw [e2] at c2
        have hti : C.L[k].I := (ownT_iff.1 HU.out).2 _ (List.getElem_mem hlt)
        obtain ⟨x, hx⟩ : ∃ x, C.L[k] = x := ⟨_, rfl⟩
        rw [hx] at c0 c1 c2 hti
        have HX := hid hx
        have hle := HF.le
        have hcap := HF.cap
        rw [TLof_n] at hle
        clear e0 e1 e2 hx hc HF
        have hkI : I64 (k : Int) := ⟨by omega, by omega⟩
        have hk9 : k < 1000000 := by omega
        go_wp2_with (first | (at_mapUpdate; refine wpList_put _ rfl _ _ _ rfl b k (C.L.take k) age rfl (Ages.ext HA.out (by repeat (with_reducible (first | assumption | exact Ext.refl _ | apply Ext.alloc | apply Ext.drew | apply Ext.drewN)))) hk9 x hti rfl k hkI rfl ?_ rfl; intro w4 ha4 hg4) | go_in)
        have hnx : x ∉ C.L.take k := fun hm => by
          obtain ⟨i, hi, he⟩ := List.getElem_of_mem hm
          have hik : i < k := by simp at hi; omega
          rw [List.getElem_take] at he
          have := nodup_at hnd (by omega) hlt (he.trans HX.out.symm)
          omega
        have htk : (C.L.take k).erase x ++ [x] = C.L.take (k + 1) := by
          rw [List.erase_of_not_mem hnx, List.take_succ_eq_append_getElem hlt, HX.out]
        rw [htk] at ha4
        go_roundw
        case rel =>
          refine ⟨k + 1, by omega, by go_num, (HB.out.to ((Ext.refl _).alloc _)).grown hg4 (fun j e => by simp at e; omega), _, ha4, fun i hi hik => ?_⟩
          unfold bump
          by_cases e : i = k
          · subst e
            rw [if_pos HX.out]
          · rw [if_neg (fun h => e (nodup_at hnd hi hlt (h.trans HX.out.symm)))]
            exact HE.out i hi (by omega)
        case measure => simp [intOf]; omega
      · obtain rfl : k = C.L.length := by omega
        have hag := HA.out
        rw [List.take_length] at hag
        have HG := hid hag
        have d0 := HB.out.d0
        have d1 := HB.out.d1
        have d2 := HB.out.d2
        have c0 := HB.out.c0
        have c1 := HB.out.c1
        have c2 := HB.out.c2
        clear hag HA
        have hcI : I64 (C.L.length : Int) := ⟨by omega, by omega⟩
        have hk9 : C.L.length < 1000000 := by omega
        obtain ⟨x, M, hM⟩ : ∃ x M, C.L.erase t ++ [t] = x :: M := by
          cases h : C.L.erase t ++ [t] with
          | nil => simp at h
          | cons x M => exact ⟨x, M, rfl⟩
        have hlx : (x :: M).length ≤ C.L.length + 1 := by
          rw [← hM, List.length_append]
          have := List.length_erase_le (l := C.L) (a := t)
          simp
          omega
        have hso : (x :: M).Pairwise fun p q => bump age t C.L.length p < bump age t C.L.length q := by
          rw [← hM]
          exact use_sorted (CV.ok_nodup HK.out) (fun i hi _ => HE.out i hi hi)
        have hxI : x.I := by
          have hm : x ∈ C.L.erase t ++ [t] := by rw [hM]; simp
          rcases List.mem_append.1 hm with h | h
          · exact (ownT_iff.1 HU.out).2 x (List.mem_of_mem_erase h)
          · simp at h; exact h ▸ ht
        have HM := hid hM
        clear hM
        go_wp2_with (first | (at_lookup; refine wpList_there _ rfl _ _ rfl b C.L.length C.L age rfl HG.out t ht rfl ?_; intro c) | (at_mapUpdate; refine wpList_put _ rfl _ _ _ rfl b C.L.length C.L age rfl HG.out hk9 t ht rfl C.L.length hcI rfl ?_ rfl; intro w4 ha4 hg4; rw [HM.out] at ha4; have b0 := (HB.out.grown hg4 (fun j e => by simp at e; omega)).c0; have lt4 := (HB.out.grown hg4 (fun j e => by simp at e; omega)).lt) | (at_len; refine wpList_count _ rfl _ rfl b _ _ _ rfl ha4 ?_) | (go_at_call 60; refine (oldest_any x M _ b _ _ ha4 (by omega) hso).mono ?_; rintro e w5 ⟨rfl, x5⟩) | (at_delete; refine wpList_drop _ rfl _ _ rfl b _ (x :: M) _ rfl (ha4.ext x5) x hxI rfl (by simp) ?_; intro w6 ha6 hg6) | go_in)
        · rename_i hm hd _ _
          have hd : C.room < (M.length : Int) + 1 := by simpa using hd
          have hm : t ∉ C.L := by simpa using hm
          have hus : C.use t = ⟨C.room, M, (C.loads + 1)⟩ := by
            unfold CV.use
            rw [if_pos HK.out, HM.out, if_neg hm, if_pos (by simpa using hd)]
            rfl
          have HUS := hid hus
          simp only [List.erase_cons_head] at ha6
          have hub := ((HB.out.grown hg4 (fun j e => by simp at e; omega)).to x5).grown hg6 (fun j e => by simp at e; omega)
          have HA := hid ha6
          have hs := (List.pairwise_cons.1 hso).2
          have hne : M ≠ [] := fun e => by simp [e] at hd; omega
          clear hus hm ha4 hg4 b0 lt4 x5 ha6 hg6 hso
          simp only [Act.put]
          have hln : M.length < 1000 := by simp at hlx ⊢; omega
          have HS := hid hs
          have HW := hid hub.ext
          have HBw := hid hub
          have c0 := hub.c0
          have lt := hub.lt
          have sz : w.heap.size < w6.heap.size := by omega
          clear hub c1 c2 d0 d1 d2 s0 hs HB HV HU HG HE
          refine wp_region_stages [([0, 1, 2, 4], 3), ([5], 6)] 6 (w.heap.size + 3) (by kernel_rfl) (by kernel_rfl) ?_
          refine wpStages_cons ?_
          simp only [List.filterMap_cons, List.filterMap_nil, List.getElem?_toArray, List.getElem?_cons_zero, List.getElem?_cons_succ]
          show wpQuiet _ _ _ _ [_, _, _, _] _
          repeat (go_big_quiet_step (fail))
          refine wpQuiet_nil ⟨_, rfl, fun K hK => ?_⟩
          go_wp2_with (go_at_call 61; refine (ordered_any M _ b _ _ (HA.out.ext (by repeat (with_reducible (first | assumption | exact Ext.refl _ | apply Ext.alloc | apply Ext.drew | apply Ext.drewN)))) hln hne HS.out).mono ?_; rintro e w8 ⟨v', rfl, ho, hx⟩)
          have hx' : Ext w6 w8 := Ext.trans (by repeat (with_reducible (first | assumption | exact Ext.refl _ | apply Ext.alloc | apply Ext.drew | apply Ext.drewN))) hx
          have hub8 := HBw.out.to hx'
          have z8 := hx'.size
          refine hK _ _ (.inr (fun k _ hk => hx'.block (by omega))) ?_
          clear hK K
          obtain ⟨a', cap', rfl, hn'⟩ := ho.form
          rw [TLof_n] at *
          have f0 := hub8.f0
          have f1 := hub8.f1
          have f2 := hub8.f2
          have p0 := hub8.p0
          have p1 := hub8.p1
          have p2 := hub8.p2
          have HX := hid hub8.ext
          have HO := hid (ho.low (show w.heap.size + 3 ≤ _ by simp; omega))
          have lt8 : w.heap.size + 1 + 1 < w8.heap.size := by omega
          have c8 := hub8.c0
          have sz8 : w.heap.size < w8.heap.size := by omega
          clear ho hx hub8 hx'
          refine wpStages_cons ?_
          simp only [List.filterMap_cons, List.filterMap_nil, List.getElem?_toArray, List.getElem?_cons_zero, List.getElem?_cons_succ]
          show wpQuiet _ _ _ _ [_] _
          repeat (go_big_quiet_step (fail))
          refine wpQuiet_nil ⟨_, rfl, fun K hK => ?_⟩
          go_wp2
          refine hK _ _ (.inl trivial) ?_
          clear hK K
          refine wpStages_nil ?_
          go_wp2_with fail
          refine bodyPost_ret (v := .agg #[.int .i64 C.room, .slice a' M.length cap', .int .i64 (C.loads + 1)]) (by simp [results, Try.results29, go_sem, *]) rfl ⟨_, rfl, ?_, ?_⟩
          · rw [HUS.out]
            exact ⟨_, rfl, (((HO.out.setLow (by simp) _).setLow (by simp) _).setLow (by simp) _).low (by omega), hr, ⟨by show _ ≤ C.loads + 1; omega, by show C.loads + 1 ≤ _; omega⟩⟩
          · exact ((HX.out.setCell (by simp; omega) _).setCell (by simp; omega) _).setCell (by simp; omega) _
        · rename_i hm hd _ _
          have hd : (M.length : Int) + 1 ≤ C.room := by simpa using hd
          have hm : t ∉ C.L := by simpa using hm
          have hus : C.use t = ⟨C.room, (x :: M), (C.loads + 1)⟩ := by
            unfold CV.use
            rw [if_pos HK.out, HM.out, if_neg hm, if_neg (by simp; omega)]
          have HUS := hid hus
          have hub := HB.out.grown hg4 (fun j e => by simp at e; omega)
          have HA := hid ha4
          have hs := hso
          have hne : (x :: M) ≠ [] := by simp
          clear hus hm ha4 hg4 b0 lt4 hso
          have hln : (x :: M).length < 1000 := by simp at hlx ⊢; omega
          have HS := hid hs
          have HW := hid hub.ext
          have HBw := hid hub
          have c0 := hub.c0
          have lt := hub.lt
          have sz : w.heap.size < w4.heap.size := by omega
          clear hub c1 c2 d0 d1 d2 s0 hs HB HV HU HG HE
          refine wp_region_stages [([0, 1, 2, 4], 3), ([5], 6)] 6 (w.heap.size + 3) (by kernel_rfl) (by kernel_rfl) ?_
          refine wpStages_cons ?_
          simp only [List.filterMap_cons, List.filterMap_nil, List.getElem?_toArray, List.getElem?_cons_zero, List.getElem?_cons_succ]
          show wpQuiet _ _ _ _ [_, _, _, _] _
          repeat (go_big_quiet_step (fail))
          refine wpQuiet_nil ⟨_, rfl, fun K hK => ?_⟩
          go_wp2_with (go_at_call 61; refine (ordered_any (x :: M) _ b _ _ (HA.out.ext (by repeat (with_reducible (first | assumption | exact Ext.refl _ | apply Ext.alloc | apply Ext.drew | apply Ext.drewN)))) hln hne HS.out).mono ?_; rintro e w8 ⟨v', rfl, ho, hx⟩)
          have hx' : Ext w4 w8 := Ext.trans (by repeat (with_reducible (first | assumption | exact Ext.refl _ | apply Ext.alloc | apply Ext.drew | apply Ext.drewN))) hx
          have hub8 := HBw.out.to hx'
          have z8 := hx'.size
          refine hK _ _ (.inr (fun k _ hk => hx'.block (by omega))) ?_
          clear hK K
          obtain ⟨a', cap', rfl, hn'⟩ := ho.form
          rw [TLof_n] at *
          have f0 := hub8.f0
          have f1 := hub8.f1
          have f2 := hub8.f2
          have p0 := hub8.p0
          have p1 := hub8.p1
          have p2 := hub8.p2
          have HX := hid hub8.ext
          have HO := hid (ho.low (show w.heap.size + 3 ≤ _ by simp; omega))
          have lt8 : w.heap.size + 1 + 1 < w8.heap.size := by omega
          have c8 := hub8.c0
          have sz8 : w.heap.size < w8.heap.size := by omega
          clear ho hx hub8 hx'
          refine wpStages_cons ?_
          simp only [List.filterMap_cons, List.filterMap_nil, List.getElem?_toArray, List.getElem?_cons_zero, List.getElem?_cons_succ]
          show wpQuiet _ _ _ _ [_] _
          repeat (go_big_quiet_step (fail))
          refine wpQuiet_nil ⟨_, rfl, fun K hK => ?_⟩
          go_wp2
          refine hK _ _ (.inl trivial) ?_
          clear hK K
          refine wpStages_nil ?_
          go_wp2_with fail
          refine bodyPost_ret (v := .agg #[.int .i64 C.room, .slice a' (x :: M).length cap', .int .i64 (C.loads + 1)]) (by simp [results, Try.results29, go_sem, *]) rfl ⟨_, rfl, ?_, ?_⟩
          · rw [HUS.out]
            exact ⟨_, rfl, (((HO.out.setLow (by simp) _).setLow (by simp) _).setLow (by simp) _).low (by omega), hr, ⟨by show _ ≤ C.loads + 1; omega, by show C.loads + 1 ≤ _; omega⟩⟩
          · exact ((HX.out.setCell (by simp; omega) _).setCell (by simp; omega) _).setCell (by simp; omega) _
        · rename_i hm hd _ _
          have hd : C.room < (M.length : Int) + 1 := by simpa using hd
          have hm : t ∈ C.L := by simpa using hm
          have hus : C.use t = ⟨C.room, M, C.loads⟩ := by
            unfold CV.use
            rw [if_pos HK.out, HM.out, if_pos hm, if_pos (by simpa using hd)]
            rfl
          have HUS := hid hus
          simp only [List.erase_cons_head] at ha6
          have hub := ((HB.out.grown hg4 (fun j e => by simp at e; omega)).to x5).grown hg6 (fun j e => by simp at e; omega)
          have HA := hid ha6
          have hs := (List.pairwise_cons.1 hso).2
          have hne : M ≠ [] := fun e => by simp [e] at hd; omega
          clear hus hm ha4 hg4 b0 lt4 x5 ha6 hg6 hso
          simp only [Act.put]
          have hln : M.length < 1000 := by simp at hlx ⊢; omega
          have HS := hid hs
          have HW := hid hub.ext
          have HBw := hid hub
          have c0 := hub.c0
          have lt := hub.lt
          have sz : w.heap.size < w6.heap.size := by omega
          clear hub c1 c2 d0 d1 d2 s0 hs HB HV HU HG HE
          refine wp_region_stages [([0, 1, 2, 4], 3), ([5], 6)] 6 (w.heap.size + 3) (by kernel_rfl) (by kernel_rfl) ?_
          refine wpStages_cons ?_
          simp only [List.filterMap_cons, List.filterMap_nil, List.getElem?_toArray, List.getElem?_cons_zero, List.getElem?_cons_succ]
          show wpQuiet _ _ _ _ [_, _, _, _] _
          repeat (go_big_quiet_step (fail))
          refine wpQuiet_nil ⟨_, rfl, fun K hK => ?_⟩
          go_wp2_with (go_at_call 61; refine (ordered_any M _ b _ _ (HA.out.ext (by repeat (with_reducible (first | assumption | exact Ext.refl _ | apply Ext.alloc | apply Ext.drew | apply Ext.drewN)))) hln hne HS.out).mono ?_; rintro e w8 ⟨v', rfl, ho, hx⟩)
          have hx' : Ext w6 w8 := Ext.trans (by repeat (with_reducible (first | assumption | exact Ext.refl _ | apply Ext.alloc | apply Ext.drew | apply Ext.drewN))) hx
          have hub8 := HBw.out.to hx'
          have z8 := hx'.size
          refine hK _ _ (.inr (fun k _ hk => hx'.block (by omega))) ?_
          clear hK K
          obtain ⟨a', cap', rfl, hn'⟩ := ho.form
          rw [TLof_n] at *
          have f0 := hub8.f0
          have f1 := hub8.f1
          have f2 := hub8.f2
          have p0 := hub8.p0
          have p1 := hub8.p1
          have p2 := hub8.p2
          have HX := hid hub8.ext
          have HO := hid (ho.low (show w.heap.size + 3 ≤ _ by simp; omega))
          have lt8 : w.heap.size + 1 + 1 < w8.heap.size := by omega
          have c8 := hub8.c0
          have sz8 : w.heap.size < w8.heap.size := by omega
          clear ho hx hub8 hx'
          refine wpStages_cons ?_
          simp only [List.filterMap_cons, List.filterMap_nil, List.getElem?_toArray, List.getElem?_cons_zero, List.getElem?_cons_succ]
          show wpQuiet _ _ _ _ [_] _
          repeat (go_big_quiet_step (fail))
          refine wpQuiet_nil ⟨_, rfl, fun K hK => ?_⟩
          go_wp2
          refine hK _ _ (.inl trivial) ?_
          clear hK K
          refine wpStages_nil ?_
          go_wp2_with fail
          refine bodyPost_ret (v := .agg #[.int .i64 C.room, .slice a' M.length cap', .int .i64 C.loads]) (by simp [results, Try.results29, go_sem, *]) rfl ⟨_, rfl, ?_, ?_⟩
          · rw [HUS.out]
            exact ⟨_, rfl, (((HO.out.setLow (by simp) _).setLow (by simp) _).setLow (by simp) _).low (by omega), hr, hl⟩
          · exact ((HX.out.setCell (by simp; omega) _).setCell (by simp; omega) _).setCell (by simp; omega) _
        · rename_i hm hd _ _
          have hd : (M.length : Int) + 1 ≤ C.room := by simpa using hd
          have hm : t ∈ C.L := by simpa using hm
          have hus : C.use t = ⟨C.room, (x :: M), C.loads⟩ := by
            unfold CV.use
            rw [if_pos HK.out, HM.out, if_pos hm, if_neg (by simp; omega)]
          have HUS := hid hus
          have hub := HB.out.grown hg4 (fun j e => by simp at e; omega)
          have HA := hid ha4
          have hs := hso
          have hne : (x :: M) ≠ [] := by simp
          clear hus hm ha4 hg4 b0 lt4 hso
          have hln : (x :: M).length < 1000 := by simp at hlx ⊢; omega
          have HS := hid hs
          have HW := hid hub.ext
          have HBw := hid hub
          have c0 := hub.c0
          have lt := hub.lt
          have sz : w.heap.size < w4.heap.size := by omega
          clear hub c1 c2 d0 d1 d2 s0 hs HB HV HU HG HE
          refine wp_region_stages [([0, 1, 2, 4], 3), ([5], 6)] 6 (w.heap.size + 3) (by kernel_rfl) (by kernel_rfl) ?_
          refine wpStages_cons ?_
          simp only [List.filterMap_cons, List.filterMap_nil, List.getElem?_toArray, List.getElem?_cons_zero, List.getElem?_cons_succ]
          show wpQuiet _ _ _ _ [_, _, _, _] _
          repeat (go_big_quiet_step (fail))
          refine wpQuiet_nil ⟨_, rfl, fun K hK => ?_⟩
          go_wp2_with (go_at_call 61; refine (ordered_any (x :: M) _ b _ _ (HA.out.ext (by repeat (with_reducible (first | assumption | exact Ext.refl _ | apply Ext.alloc | apply Ext.drew | apply Ext.drewN)))) hln hne HS.out).mono ?_; rintro e w8 ⟨v', rfl, ho, hx⟩)
          have hx' : Ext w4 w8 := Ext.trans (by repeat (with_reducible (first | assumption | exact Ext.refl _ | apply Ext.alloc | apply Ext.drew | apply Ext.drewN))) hx
          have hub8 := HBw.out.to hx'
          have z8 := hx'.size
          refine hK _ _ (.inr (fun k _ hk => hx'.block (by omega))) ?_
          clear hK K
          obtain ⟨a', cap', rfl, hn'⟩ := ho.form
          rw [TLof_n] at *
          have f0 := hub8.f0
          have f1 := hub8.f1
          have f2 := hub8.f2
          have p0 := hub8.p0
          have p1 := hub8.p1
          have p2 := hub8.p2
          have HX := hid hub8.ext
          have HO := hid (ho.low (show w.heap.size + 3 ≤ _ by simp; omega))
          have lt8 : w.heap.size + 1 + 1 < w8.heap.size := by omega
          have c8 := hub8.c0
          have sz8 : w.heap.size < w8.heap.size := by omega
          clear ho hx hub8 hx'
          refine wpStages_cons ?_
          simp only [List.filterMap_cons, List.filterMap_nil, List.getElem?_toArray, List.getElem?_cons_zero, List.getElem?_cons_succ]
          show wpQuiet _ _ _ _ [_] _
          repeat (go_big_quiet_step (fail))
          refine wpQuiet_nil ⟨_, rfl, fun K hK => ?_⟩
          go_wp2
          refine hK _ _ (.inl trivial) ?_
          clear hK K
          refine wpStages_nil ?_
          go_wp2_with fail
          refine bodyPost_ret (v := .agg #[.int .i64 C.room, .slice a' (x :: M).length cap', .int .i64 C.loads]) (by simp [results, Try.results29, go_sem, *]) rfl ⟨_, rfl, ?_, ?_⟩
          · rw [HUS.out]
            exact ⟨_, rfl, (((HO.out.setLow (by simp) _).setLow (by simp) _).setLow (by simp) _).low (by omega), hr, hl⟩
          · exact ((HX.out.setCell (by simp; omega) _).setCell (by simp; omega) _).setCell (by simp; omega) _
end Go.Proofs.Ytcogkglkioejaaa
