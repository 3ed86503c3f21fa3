/-
  The audit: member.
-/
import Derived.Test.YtahcedpfnechfaaDoorAudRL
namespace Go.Proofs.YtahcedpfnechfaaDoor
set_option maxRecDepth 100000
open Go.RowKit Go.Sort

theorem LookAt.below {w w' : World} {L : Nat} {ty : TypeId} {t : List Value} {d : DumpV} {As : Option Addr} {cs : Nat} {Af : Option Addr} {cf : Nat} {M : List Int} (h : LookAt w L ty t d As cs Af cf M) (hb : Below w.heap.size w w') : LookAt w' L ty t d As cs Af cf M :=
  ⟨h.blk.below hb h.blk.lt, h.len, h.slots.kept hb.size fun a _ hlt => hb.block a.block hlt, h.free.below hb (Nat.le_refl _), h.ne⟩
theorem LookAt.mark {w : World} {L : Nat} {ty : TypeId} {t : List Value} {d : DumpV} {As : Option Addr} {cs : Nat} {Af : Option Addr} {cf : Nat} {M : List Int} (h : LookAt w L ty t d As cs Af cf M) {i : Nat} {v : Int} (hi : M[i]? = some v) : w.cell? ⟨L, 6 + i, none⟩ = some (.int .i64 v) := (h.blk.cell (6 + i)).trans (lookC_m rfl hi)
/-- May the slot i be a member behind this one? -/
def memberX (d : DumpV) (M : List Int) (i ahead up mark : Int) : Bool :=
  inR i && (M.getD i.toNat 0 == 0) && (d.slots.getD i.toNat SlotV.zero).used && ((d.slots.getD i.toNat SlotV.zero).prev == ahead) && ((d.slots.getD i.toNat SlotV.zero).slot == i) &&
    (up == -1 || ((d.slots.getD i.toNat SlotV.zero).upSlot == up && (d.slots.getD i.toNat SlotV.zero).upBirth == (d.slots.getD up.toNat SlotV.zero).birth)) && (mark != 2 || livesX d (d.slots.getD i.toNat SlotV.zero) up)
section
variable {d : DumpV} {M : List Int} {i ahead up mark : Int} {k : Nat} {s : SlotV}
theorem memberX_out (h : inR i = false) : memberX d M i ahead up mark = false := by unfold memberX; rw [h]; rfl
theorem memberX_seen {v : Int} (hv : M[k]? = some v) (h : v ≠ 0) : memberX d M k ahead up mark = false := by
  unfold memberX
  rw [Int.toNat_natCast, List.getD_eq_getElem?_getD, hv]
  simp [h]
theorem memberX_at (hk : k < 32) (hv : M[k]? = some 0) (hs : d.slots[k]? = some s) : memberX d M k ahead up mark = (s.used && (s.prev == ahead) && (s.slot == (k : Int)) && (up == -1 || (s.upSlot == up && s.upBirth == (d.slots.getD up.toNat SlotV.zero).birth)) && (mark != 2 || livesX d s up)) := by
  unfold memberX
  rw [Int.toNat_natCast, List.getD_eq_getElem?_getD, hv, show d.slots.getD k SlotV.zero = s by rw [List.getD_eq_getElem?_getD, hs]; rfl, inR_nat hk]
  simp
end
set_option maxHeartbeats 16000000 in
theorem cmember_any (d : DumpV) (i ahead up mark : Int) (hup : up = -1 ∨ ∃ u : Nat, up = u ∧ u < 32) (hd : d.slots.length = 32) (L : Nat) (As : Option Addr) (cs : Nat) (Af : Option Addr) (cf : Nat) (M : List Int) (w : World) (h : LookAt w L 58 [] d As cs Af cf M) :
    Calls Tryd.prog 55 #[.pointer (some ⟨L, 0, none⟩), .int .i64 i, .int .i64 ahead, .int .i64 up, .int .i64 mark] w (RetB (.bool (memberX d M i ahead up mark)) w) := by
  have HU := Lib.hid Tryd.underlying49
  have HL := h.blk.lt
  have HT := Lib.hid (cthere_any i w)
  have H := Lib.hid h
  go_enter Tryd.func55, Tryd.ntmps55
  rcases inR_cases i with hi | hi
  · obtain ⟨k, rfl⟩ : ∃ k : Nat, i = (k : Int) := ⟨i.toNat, by have := inR_iff.1 hi; omega⟩
    have hk := inR_iff.1 hi
    have hk0 := hk.1
    have hk32 := hk.2
    have hkn : k < 32 := by omega
    obtain ⟨v, hv⟩ : ∃ v, M[k]? = some v := ⟨_, List.getElem?_eq_getElem (by rw [H.out.len]; exact hkn)⟩
    have cm := h.mark hv
    have HV := Lib.hid hv
    rw [hi] at HT
    clear h hi hk hv
    go_wp2_with (go_at_call 52; fail)
    refine HT.out.mono ?_
    rintro e w' ⟨rfl, rfl⟩
    by_cases hv0 : v = 0
    · subst hv0
      obtain ⟨s, hs⟩ : ∃ s, d.slots[k]? = some s := ⟨_, List.getElem?_eq_getElem (by omega)⟩
      obtain ⟨sb, so, rfl, hsb, hsr⟩ := H.out.slots (by omega)
      have HR := Lib.hid (hsr k s hs)
      have l2 : w.cell? ⟨L, 2, none⟩ = some (.slice (some ⟨sb, so, none⟩) 32 cs) := by
        have h9 := (H.out.blk.cell 2).trans (show _ = some (.slice (some ⟨sb, so, none⟩) d.slots.length cs) from rfl)
        rwa [hd] at h9
      have HX := Lib.hid (memberX_at (ahead := ahead) (up := up) (mark := mark) hkn HV.out hs)
      obtain ⟨v1, hv1⟩ : ∃ v1, w.alloc (.cells s.cells 49) = v1 := ⟨_, rfl⟩
      have b1 : Blk v1 w.heap.size 49 s.cells := by rw [← hv1]; exact Blk.new _ _ _
      have hb1 : Below w.heap.size w v1 := by rw [← hv1]; exact (Below.refl _ _).alloc (Nat.le_refl _) _
      have hs1 : v1.heap.size ≤ w.heap.size + 1 ∧ w.heap.size + 1 ≤ v1.heap.size := by rw [← hv1]; simp
      have x0 : v1.cell? ⟨w.heap.size, 0, none⟩ = some (.bool s.used) := (b1.cell 0).trans rfl
      have x3 : v1.cell? ⟨w.heap.size, 3, none⟩ = some (.int .i64 s.prev) := (b1.cell 3).trans rfl
      have x5 : v1.cell? ⟨w.heap.size, 5, none⟩ = some (.int .i64 s.slot) := (b1.cell 5).trans rfl
      have x7 : v1.cell? ⟨w.heap.size, 7, none⟩ = some (.int .i64 s.upSlot) := (b1.cell 7).trans rfl
      have x8 : v1.cell? ⟨w.heap.size, 8, none⟩ = some (.int .i64 s.upBirth) := (b1.cell 8).trans rfl
      have z2 : v1.cell? ⟨L, 2, none⟩ = some (.slice (some ⟨sb, so, none⟩) 32 cs) := (hb1.cell (p := ⟨L, 2, none⟩) HL).trans l2
      have H1 := Lib.hid (H.out.below hb1)
      have RS := Lib.hid b1.row
      have HV1 := Lib.hid hv1
      have BB := Lib.hid hb1
      clear hv1 b1 hb1 hsr hs
      by_cases e0 : s.used = true
      · rw [e0] at x0
        by_cases e1 : s.prev = ahead
        · by_cases e2 : s.slot = (k : Int)
          · rcases hup with rfl | ⟨u, rfl, hu⟩
            · go_wp2_with (first
                | ((with_reducible show wpList _ _ _ (Oper.mk (some 31) (Op.load _ _) _ _ _ _ :: _) _ _); refine wpList_load_at (ty := 49) rfl rfl rfl HR.out HU.out rfl slotInfo ?_)
                | ((with_reducible show wpList _ _ _ (Oper.mk none _ _ _ _ _ :: _) _ (World.alloc _ _)); refine wpList_store_new (ty := 49) rfl rfl rfl rfl rfl (SlotV.one _) slotInfo ?_; rw [HV1.out]))
              go_big_quiet (fail)
              have RN := Lib.hid (fun n => show RowAt (v1.drewN n) w.heap.size 0 s.cells from RS.out.below (Go.below_drewN (Below.refl v1.heap.size v1) n) (by omega))
              have BN := Lib.hid (fun n => Go.below_drewN BB.out n)
              have HLV := Lib.hid (fun n => clives_any d s (-1) (.inl rfl) hd L (some ⟨sb, so, none⟩) cs Af cf M (v1.drewN n) (H1.out.below (Go.below_drewN (Below.refl v1.heap.size v1) n)))
              by_cases em : mark = 2
              · subst em
                go_wp2_with (first
                  | ((with_reducible show wpList _ _ _ (Oper.mk (some 70) (Op.load _ _) _ _ _ _ :: _) _ _); refine wpList_load_at (ty := 49) rfl rfl rfl (RN.out _) HU.out rfl slotInfo ?_)
                  | (go_at_call 61; fail))
                refine (HLV.out _).mono ?_
                rintro e v4 ⟨rfl, hb4⟩
                have B4 := Lib.hid ((BN.out _).trans (hb4.mono (BN.out _).size))
                have HY := Lib.hid (HX.out.trans (show _ = livesX d s (-1) by simp [e0, e1, e2]))
                clear hb4
                go_wp2
                go_ret
                exact ⟨by rw [HY.out]; rfl, B4.out⟩
              · have HY := Lib.hid (HX.out.trans (show _ = true by simp [em, e0, e1, e2]))
                go_wp2
                go_ret
                exact ⟨by rw [HY.out]; first | rfl | simp [em], BN.out _⟩
            · have hu0 : ¬ ((u : Int) = -1) := by omega
              have hug : ((u : Int) != -1) = true := by simp
              have hug2 : ((u : Int) == -1) = false := by simp
              have hu32 : (u : Int) < 32 := by omega
              have hun : (0 : Int) ≤ (u : Int) := by omega
              obtain ⟨su, hsu⟩ : ∃ su, d.slots[u]? = some su := ⟨_, List.getElem?_eq_getElem (by omega)⟩
              have HSU := Lib.hid (show d.slots.getD (u : Int).toNat SlotV.zero = su by rw [Int.toNat_natCast, List.getD_eq_getElem?_getD, hsu]; rfl)
              have w6 : v1.cell? ⟨sb, so + u * 17 + 6, none⟩ = some (.int .i64 su.birth) := by
                obtain ⟨b9, o9, e9, h9, r9⟩ := H1.out.slots (by omega)
                cases e9
                exact ((r9 u su hsu).at_ 6 _ rfl)
              have w7 : v1.cell? ⟨sb, so + u * 17 + 5 + 1, none⟩ = some (.int .i64 su.birth) := w6
              rw [HSU.out] at HX
              clear hsu
              by_cases e3 : s.upSlot = (u : Int)
              · by_cases e4 : s.upBirth = su.birth
                · go_wp2_with (first
                    | ((with_reducible show wpList _ _ _ (Oper.mk (some 31) (Op.load _ _) _ _ _ _ :: _) _ _); refine wpList_load_at (ty := 49) rfl rfl rfl HR.out HU.out rfl slotInfo ?_)
                    | ((with_reducible show wpList _ _ _ (Oper.mk none _ _ _ _ _ :: _) _ (World.alloc _ _)); refine wpList_store_new (ty := 49) rfl rfl rfl rfl rfl (SlotV.one _) slotInfo ?_; rw [HV1.out]))
                  go_big_quiet (fail)
                  have RN := Lib.hid (fun n => show RowAt (v1.drewN n) w.heap.size 0 s.cells from RS.out.below (Go.below_drewN (Below.refl v1.heap.size v1) n) (by omega))
                  have BN := Lib.hid (fun n => Go.below_drewN BB.out n)
                  have HLV := Lib.hid (fun n => clives_any d s u (.inr ⟨u, rfl, hu⟩) hd L (some ⟨sb, so, none⟩) cs Af cf M (v1.drewN n) (H1.out.below (Go.below_drewN (Below.refl v1.heap.size v1) n)))
                  by_cases em : mark = 2
                  · subst em
                    go_wp2_with (first
                      | ((with_reducible show wpList _ _ _ (Oper.mk (some 70) (Op.load _ _) _ _ _ _ :: _) _ _); refine wpList_load_at (ty := 49) rfl rfl rfl (RN.out _) HU.out rfl slotInfo ?_)
                      | (go_at_call 61; fail))
                    refine (HLV.out _).mono ?_
                    rintro e v4 ⟨rfl, hb4⟩
                    have B4 := Lib.hid ((BN.out _).trans (hb4.mono (BN.out _).size))
                    have HY := Lib.hid (HX.out.trans (show _ = livesX d s u by simp [e0, e1, e2, e3, e4]))
                    clear hb4
                    go_wp2
                    go_ret
                    exact ⟨by rw [HY.out]; rfl, B4.out⟩
                  · have HY := Lib.hid (HX.out.trans (show _ = true by simp [em, e0, e1, e2, e3, e4]))
                    go_wp2
                    go_ret
                    exact ⟨by rw [HY.out]; first | rfl | simp [em], BN.out _⟩
                · go_wp2_with (first
                    | ((with_reducible show wpList _ _ _ (Oper.mk (some 31) (Op.load _ _) _ _ _ _ :: _) _ _); refine wpList_load_at (ty := 49) rfl rfl rfl HR.out HU.out rfl slotInfo ?_)
                    | ((with_reducible show wpList _ _ _ (Oper.mk none _ _ _ _ _ :: _) _ (World.alloc _ _)); refine wpList_store_new (ty := 49) rfl rfl rfl rfl rfl (SlotV.one _) slotInfo ?_; rw [HV1.out]))
                  go_big_quiet (fail)
                  go_wp2
                  go_ret
                  exact ⟨by rw [HX.out]; simp [e0, e1, e2, e3, e4, hu0], Go.below_drewN BB.out _⟩
              · go_wp2_with (first
                  | ((with_reducible show wpList _ _ _ (Oper.mk (some 31) (Op.load _ _) _ _ _ _ :: _) _ _); refine wpList_load_at (ty := 49) rfl rfl rfl HR.out HU.out rfl slotInfo ?_)
                  | ((with_reducible show wpList _ _ _ (Oper.mk none _ _ _ _ _ :: _) _ (World.alloc _ _)); refine wpList_store_new (ty := 49) rfl rfl rfl rfl rfl (SlotV.one _) slotInfo ?_; rw [HV1.out]))
                go_big_quiet (fail)
                go_wp2
                go_ret
                exact ⟨by rw [HX.out]; simp [e0, e1, e2, e3, hu0], Go.below_drewN BB.out _⟩
          · have hne2 : ¬ (s.slot = (k : Int)) := e2
            go_wp2_with (first
              | ((with_reducible show wpList _ _ _ (Oper.mk (some 31) (Op.load _ _) _ _ _ _ :: _) _ _); refine wpList_load_at (ty := 49) rfl rfl rfl HR.out HU.out rfl slotInfo ?_)
              | ((with_reducible show wpList _ _ _ (Oper.mk none _ _ _ _ _ :: _) _ (World.alloc _ _)); refine wpList_store_new (ty := 49) rfl rfl rfl rfl rfl (SlotV.one _) slotInfo ?_; rw [HV1.out]))
            go_ret
            exact ⟨by rw [HX.out]; simp [*], BB.out⟩
        · go_wp2_with (first
            | ((with_reducible show wpList _ _ _ (Oper.mk (some 31) (Op.load _ _) _ _ _ _ :: _) _ _); refine wpList_load_at (ty := 49) rfl rfl rfl HR.out HU.out rfl slotInfo ?_)
            | ((with_reducible show wpList _ _ _ (Oper.mk none _ _ _ _ _ :: _) _ (World.alloc _ _)); refine wpList_store_new (ty := 49) rfl rfl rfl rfl rfl (SlotV.one _) slotInfo ?_; rw [HV1.out]))
          go_ret
          exact ⟨by rw [HX.out]; simp [*], BB.out⟩
      · have e0' : s.used = false := by simpa using e0
        rw [e0'] at x0
        go_wp2_with (first
          | ((with_reducible show wpList _ _ _ (Oper.mk (some 31) (Op.load _ _) _ _ _ _ :: _) _ _); refine wpList_load_at (ty := 49) rfl rfl rfl HR.out HU.out rfl slotInfo ?_)
          | ((with_reducible show wpList _ _ _ (Oper.mk none _ _ _ _ _ :: _) _ (World.alloc _ _)); refine wpList_store_new (ty := 49) rfl rfl rfl rfl rfl (SlotV.one _) slotInfo ?_; rw [HV1.out]))
        go_ret
        exact ⟨by rw [HX.out]; simp [*], BB.out⟩
    · have HX := Lib.hid (memberX_seen (d := d) (ahead := ahead) (up := up) (mark := mark) HV.out hv0)
      go_wp2
      go_ret
      exact ⟨by rw [HX.out]; rfl, Below.refl _ _⟩
  · rw [hi] at HT
    have HX := Lib.hid (memberX_out (d := d) (M := M) (ahead := ahead) (up := up) (mark := mark) hi)
    clear h hi
    go_wp2_with (go_at_call 52; fail)
    refine HT.out.mono ?_
    rintro e w' ⟨rfl, rfl⟩
    go_wp2
    go_ret
    exact ⟨by rw [HX.out]; rfl, Below.refl _ _⟩
end Go.Proofs.YtahcedpfnechfaaDoor
