/-
  lineagelaw16.RingPlays: the whole walk.
-/
import Derived.Test.YtdgdbcapojgnlaaDoorGi
import Derived.Test.YtdgdbcapojgnlaaDoorGh
import Derived.Test.YtdgdbcapojgnlaaDoorGf
import Derived.Test.YtdgdbcapojgnlaaDoorGg
import Derived.Test.YtdgdbcapojgnlaaDoorAsked
import Derived.Deep.CutRange
namespace Go.Proofs.YtdgdbcapojgnlaaDoor
set_option maxRecDepth 100000
open Go.RowKit Go.Shelf Go.Sort
attribute [local go_sem] Oper.semAt_some

/-- Rows of acts that may be read. -/
def Acts16At (w : World) (A : Option Addr) (xs : List Act16) : Prop := 0 < xs.length → ∃ b off, A = some ⟨b, off, none⟩ ∧ b < w.heap.size ∧ ∀ k y, xs[k]? = some y → RowAt w b (off + k * 4) y.cells
theorem Acts16At.below {w w' : World} {A : Option Addr} {xs : List Act16} {B : Nat} (h : Acts16At w A xs) (hb : Below B w w') (hB : w.heap.size ≤ B) : Acts16At w' A xs := fun hn => by
  obtain ⟨b, off, rfl, hlt, hc⟩ := h hn
  have hs := hb.size
  exact ⟨b, off, rfl, by omega, fun k i hk => (hc k i hk).below hb (by omega)⟩
theorem all_congr {S T : St} (h : S.slots = T.slots) (x : Int) : S.all x = T.all x := by
  have hr : ∀ (n : Nat) (i : Int), S.run n i = T.run n i := by
    intro n
    induction n with
    | zero => intro i; rfl
    | succ n ih => intro i; unfold St.run; rw [lk_congr h, ih]
  unfold St.all
  rw [lk_congr h, hr]
def cutQ (I : Act → World → Prop) : Exit → Act → World → Prop
  | .normal, a, w => I a w
  | _, _, _ => False
/-- A region, and behind it what it leaves. -/
theorem wp_region_cut {P : Program} {id : Nat} {ops : Array Oper} {b : Bool} {Q : Exit → Act → World → Prop} {a : Act} {w : World} (I : Act → World → Prop) (h1 : (Code.region id ops b).wp P (cutQ I) a w) (h2 : ∀ a' w', I a' w' → Q .normal a' w') : (Code.region id ops b).wp P Q a w :=
  Code.wp_mono (fun e a w h => by cases e <;> first | exact h2 _ _ h | exact (h : False).elim) h1
theorem cutQ.normal {I : Act → World → Prop} {a : Act} {w : World} (h : I a w) : cutQ I .normal a w := h
/-- Between two acts. -/
structure InvR (w3 : World) (g lo h b : Nat) (m : Nat) (S R : St) (ds : List Nat) (W : World) : Prop where
  al : Alike w3 g lo h b S R W
  w0 : 0 ≤ S.writes
  w1 : S.writes ≤ 4 * m
  mkd : Marked w3.heap.size ds W
  gl : g < lo
  gb : g < w3.heap.size ∧ h < w3.heap.size ∧ b < w3.heap.size
section
variable {w3 W W' : World} {g lo h b m : Nat} {S R S' R' : St} {ds : List Nat}
theorem Marked.keep {B : Nat} (hm : Marked B ds W) (hk : ∀ k, k < W.heap.size → B ≤ k → W'.heap[k]? = W.heap[k]?) : Marked B ds W' :=
  ⟨fun D hD => ⟨(hm.at_ D hD).1, (hk D (Array.getElem?_eq_some_iff.1 (hm.at_ D hD).2).1 (hm.at_ D hD).1).trans (hm.at_ D hD).2⟩, hm.nodup⟩
theorem InvR.read (i : InvR w3 g lo h b m S R ds W) (hb : Below W.heap.size W W') : InvR w3 g lo h b m S R ds W' :=
  ⟨⟨i.al.two.call hb, i.al.ag⟩, i.w0, i.w1, i.mkd.keep (fun k hk _ => hb.block k hk), i.gl, i.gb⟩
theorem InvR.next (i : InvR w3 g lo h b m S R ds W) : InvR w3 g lo h b (m + 1) S R ds W := ⟨i.al, i.w0, by have := i.w1; omega, i.mkd, i.gl, i.gb⟩
theorem InvR.turn (i : InvR w3 g lo h b m S R ds W) (a : Alike W g lo h b S' R' W') (h0 : S.writes ≤ S'.writes) (h1 : S'.writes ≤ S.writes + 4) : InvR w3 g lo h b (m + 1) S' R' ds W' :=
  ⟨⟨i.al.two.trans a.two, a.ag⟩, by have := i.w0; omega, by have := i.w1; omega, i.mkd.keep (fun k hk hB => a.two.tn.block k hk (by have := i.gb; omega)), i.gl, i.gb⟩
theorem InvR.mark (i : InvR w3 g lo h b m S R ds W) {D : Nat} (hb : Below W.heap.size W W') (hD : W.heap.size ≤ D) (hK : W'.heap[D]? = some (.deferred (some []))) : InvR w3 g lo h b m S R (D :: ds) W' := by
  have j := i.read hb
  have hs := i.al.two.tn.size
  refine ⟨j.al, j.w0, j.w1, ⟨fun E hE => ?_, List.nodup_cons.2 ⟨fun hh => ?_, i.mkd.nodup⟩⟩, j.gl, j.gb⟩
  · rcases List.mem_cons.1 hE with rfl | hE
    · exact ⟨by omega, hK⟩
    · exact j.mkd.at_ E hE
  · have := (Array.getElem?_eq_some_iff.1 (i.mkd.at_ D hh).2).1
    omega
end
set_option maxHeartbeats 16000000 in
theorem rplays_any (P0 : Option Addr) (cap : Nat) (xs : List Act16) (w : World) (hin : Acts16At w P0 xs) (_ : xs.length * 32 ≤ 140737488351232) (hL : Laid w) :
    Calls Tryd.prog 5 #[.slice P0 xs.length cap] w (RetB (.bool true) w) := by
  obtain ⟨ii, iz, hi0, hz0, hz1, hz2, hz3⟩ := intInfo
  have HI := Lib.hid hin
  have hge := hL.pos
  have HL := Lib.hid hL
  clear hin hL
  have first2 : ∀ (Q : Exit → Act → World → Prop) (K : Nat → Nat → Nat → World → Prop), True := fun _ _ => trivial
  clear first2
  by_cases hbig : 500 < xs.length
  · have hbig' : (500 : Int) < (xs.length : Int) := by omega
    refine calls_marks Tryd.func5 rfl ?_
    simp only [Tryd.ntmps5, List.size_toArray, List.length_cons, List.length_nil, Nat.reduceAdd, Nat.reduceSub, Array.replicate_succ, Array.replicate_zero, List.push_toArray, List.append_toArray, List.nil_append, List.cons_append]
    go_wp2_with (go_at_call 7; fail)
    refine (new_st w).mono ?_
    rintro e w1 ⟨g, rfl, hg, hS1, hb1⟩
    have B1 := Lib.hid hb1
    clear hS1 hb1
    go_wp2_with (go_at_call 8; fail)
    refine (rnew_any w1).mono ?_
    rintro e w3 ⟨h, b, rfl, hh, hb, hR, hb3⟩
    have B3 := Lib.hid (B1.out.trans (hb3.mono B1.out.size))
    clear hR hb3
    go_wp2
    exact ⟨_, results_tmp rfl _ _ _, rfl, B3.out⟩
  have hbig' : ¬ (500 : Int) < (xs.length : Int) := by omega
  refine calls_marks Tryd.func5 rfl ?_
  simp only [Tryd.ntmps5, List.size_toArray, List.length_cons, List.length_nil, Nat.reduceAdd, Nat.reduceSub, Array.replicate_succ, Array.replicate_zero, List.push_toArray, List.append_toArray, List.nil_append, List.cons_append]
  go_wp2_with (go_at_call 7; fail)
  refine (new_st w).mono ?_
  rintro e w1 ⟨g, rfl, hg, hS1, hb1⟩
  have hgl := hS1.lt
  have hs1 := hb1.size
  have K1 := Lib.hid hS1
  have B1 := Lib.hid hb1
  clear hS1 hb1
  go_wp2_with (go_at_call 8; fail)
  refine (rnew_any w1).mono ?_
  rintro e w3 ⟨h, b, rfl, hh, hb, hR, hb3⟩
  have hs3 := hb3.size
  have hhb := hR.los
  have I3 := Lib.hid (show InvR w3 g w1.heap.size h b 0 St.new St.new [] w3 from ⟨⟨Two.start (K1.out.below hb3 (by omega)) hR, ⟨rfl, rfl, by decide⟩⟩, by decide, by decide, Marked.nil _ _, by omega, by omega⟩)
  have B3 := Lib.hid (B1.out.trans (hb3.mono (by omega)))
  have L3 := Lib.hid (HL.out.below B3.out hge)
  have hfr := frees_eql
  clear hR hb3 K1 B1
  go_wp2
  --OUTER
  refine wp_loop (fun a' W => ∃ (m : Nat) (S R : St) (ds : List Nat) (q : Nat → Value), (∀ i, q i = a'.tmps.getD i undef) ∧ a'.tmps = #[.slice P0 xs.length cap, undef, .bool false, .pointer (some ⟨g, 0, none⟩), .pointer (some ⟨h, 0, none⟩), .int .i64 m, q 6, q 7, q 8, q 9, q 10, q 11, q 12, undef, undef, q 15, q 16, q 17, q 18, q 19, q 20, q 21, q 22, q 23, undef, undef, q 26, q 27, q 28, q 29, q 30, q 31, q 32, q 33, q 34, q 35, q 36, q 37, q 38, q 39, q 40, q 41, q 42, q 43, q 44, q 45, q 46, q 47, q 48, q 49, q 50, q 51, q 52, q 53, q 54, q 55, q 56, q 57, q 58, q 59, q 60, q 61, q 62, q 63, q 64, q 65, q 66, q 67, q 68, q 69, q 70, q 71, q 72, q 73, q 74, q 75, q 76, q 77, q 78, q 79, q 80, q 81, q 82, q 83, q 84, q 85, q 86, q 87, q 88, q 89, q 90, q 91, q 92, q 93, q 94, undef, undef, undef, undef, undef, undef, undef, undef, undef, undef, undef, undef, undef] ∧ a'.defers = marks ds ∧ m ≤ xs.length ∧ InvR w3 g w1.heap.size h b m S R ds W) (fun a' _ => xs.length - (intOf (a'.tmps.getD 5 undef)).toNat) ?_ ?_
  · exact ⟨0, St.new, St.new, [], fun i => Array.getD _ i undef, fun _ => rfl, by kernel_rfl, rfl, Nat.zero_le _, I3.out⟩
  rintro ⟨tm, df⟩ W ⟨m, S, R, ds, q, hq, hF, hD, hm, hInv⟩
  dsimp only at hq hF hD
  clear hq
  subst hF hD
  have HV := Lib.hid hInv
  have hszW := hInv.al.two.tn.size
  clear hInv I3
  have hgll := HV.out.al.two.ar.lt
  have hll := HV.out.al.two.rf.los
  by_cases hlt : m < xs.length
  · have hmi : (m : Int) < (xs.length : Int) := by omega
    obtain ⟨x, hx⟩ : ∃ x, xs[m]? = some x := ⟨_, List.getElem?_eq_getElem hlt⟩
    obtain ⟨bb, off, rfl, hbl, hrow0⟩ := (HI.out.below (B3.out.trans (HV.out.al.two.below (n := w.heap.size) (by omega) (by omega) (by omega))) (Nat.le_refl _)) (by omega)
    have HRW := Lib.hid (hrow0 m x hx)
    have HU := Lib.hid Tryd.underlying53
    obtain ⟨c, hcK, hc6⟩ : ∃ N : Nat, pickZ x.kind 6 = (N : Int) ∧ N < 6 := ⟨(pickZ x.kind 6).toNat, by unfold pickZ; omega, by unfold pickZ; omega⟩
    have HC := Lib.hid (fun w => show Calls Tryd.prog 9 #[.int .i64 x.kind, .int .i64 6] w (RetSame (.int .i64 (c : Int)) w) from by
      have h := pick_any x.kind 6 (by decide) (by decide) w
      rwa [show pickZ x.kind ((6 : Nat) : Int) = (c : Int) from hcK] at h)
    obtain ⟨V, hV⟩ : ∃ V, W.alloc (.cells x.cells 53) = V := ⟨_, rfl⟩
    have hVs : V.heap.size ≤ W.heap.size + 1 ∧ W.heap.size + 1 ≤ V.heap.size := by rw [← hV]; simp
    have hbV : Below W.heap.size W V := by rw [← hV]; exact (Below.refl _ _).alloc (Nat.le_refl _) _
    have BX := Lib.hid (show Blk V W.heap.size 53 x.cells by rw [← hV]; exact Blk.new _ _ _)
    have HIV := Lib.hid (HV.out.read hbV)
    have cx0 : (W.alloc (.cells x.cells 53)).cell? ⟨W.heap.size, 0, none⟩ = some (.int .i64 x.kind) := ((Blk.new _ _ _).cell 0).trans rfl
    have HVV := Lib.hid hV
    have LV := Lib.hid (HIV.out.al.two.laid L3.out (by omega))
    clear hrow0 hx hbl hV hbV
    rcases (show c = 4 ∨ c = 5 ∨ c = 0 ∨ c = 1 ∨ c = 2 ∨ c = 3 by omega) with rfl | rfl | rfl | rfl | rfl | rfl
    · --FOUR
      generalize hLL : S.all x.i = L at *
      clear hcK
      obtain ⟨N, hN, hN40⟩ : ∃ N : Nat, pickZ x.k 40 = (N : Int) ∧ N < 40 := ⟨(pickZ x.k 40).toNat, by unfold pickZ; omega, by unfold pickZ; omega⟩
      have HP := Lib.hid (fun w => show Calls Tryd.prog 9 #[.int .i64 x.k, .int .i64 40] w (RetSame (.int .i64 (N : Int)) w) from by
        have h := pick_any x.k 40 (by decide) (by decide) w
        rwa [show pickZ x.k ((40 : Nat) : Int) = (N : Int) from hN] at h)
      have hL32 : L.length ≤ 32 := by rw [← hLL]; exact all_len S x.i
      have HR1 := rall16_any x.i V HIV.out.al.two.rf
      rw [all_congr HIV.out.al.ag.slots.symm x.i, hLL] at HR1
      have HRA := Lib.hid HR1
      have HAA := Lib.hid (fun W' (hA : IsAr W' g S) => all_any x.i g W' hA)
      have HRL := Lib.hid (fun W' (hA : IsAr W' g S) => rall_any x.i N g W' hA)
      rw [hLL] at HAA HRL
      have HLL := Lib.hid hLL
      have hne0 : (N : Int).toNat = N := Int.toNat_natCast N
      rw [hne0] at HRL
      clear hLL hN hne0 HR1
      go_wp2_with (first
        | ((with_reducible show wpList _ _ _ (Oper.mk (some 35) (Op.load _ _) _ _ _ _ :: _) _ _); refine wpList_load_at (ty := 53) rfl rfl rfl HRW.out HU.out rfl act16Info ?_)
        | ((with_reducible show wpList _ _ _ (Oper.mk none (Op.store _ _ _) _ _ _ _ :: _) _ (World.alloc _ _)); refine wpList_store_new (ty := 53) rfl rfl rfl rfl rfl (Act16.one _) act16Info ?_)
        | (go_at_call 9; fail))
      refine (HC.out _).mono ?_
      rintro e w' ⟨rfl, rfl⟩
      rw [HVV.out]
      have cx1 : V.cell? ⟨W.heap.size, 1, none⟩ = some (.int .i64 x.i) := (BX.out.cell 1).trans rfl
      clear cx0 HRW
      go_wp2_with (go_at_call 15; fail)
      refine HRA.out.mono ?_
      rintro e V1 ⟨v1, rfl, hr1, hb1⟩
      obtain ⟨A1, cap1, rfl, hcap1, hA1⟩ := owns_intsCap hr1
      rw [natInts_len] at *
      have hs1v := hb1.size
      have I1 := Lib.hid (HIV.out.read hb1)
      have KA1 := Lib.hid hA1
      have BX1 := Lib.hid (BX.out.below hb1 BX.out.lt)
      have d2 : V1.cell? ⟨W.heap.size, 2, none⟩ = some (.int .i64 x.k) := (BX1.out.cell 2).trans rfl
      have d1 : V1.cell? ⟨W.heap.size, 1, none⟩ = some (.int .i64 x.i) := (BX1.out.cell 1).trans rfl
      clear hr1 hb1 hA1 HRA cx1
      go_wp2_with (go_at_call 9; fail)
      refine (HP.out _).mono ?_
      rintro e w' ⟨rfl, rfl⟩
      go_wp2_with (go_at_call 16; fail)
      refine (HAA.out _ I1.out.al.two.ar).mono ?_
      rintro e V2 ⟨Bq, rfl, hsq, hb2⟩
      have hs2v := hb2.size
      have I2 := Lib.hid (I1.out.read hb2)
      have KA2 := Lib.hid (KA1.out.below hb2 (Nat.le_refl _))
      have BX2 := Lib.hid (BX1.out.below hb2 BX1.out.lt)
      have HSQ := Lib.hid hsq
      have e1 : V2.cell? ⟨W.heap.size, 1, none⟩ = some (.int .i64 x.i) := (BX2.out.cell 1).trans rfl
      clear hsq hb2 d1 d2 HAA HP
      obtain ⟨M1, hM⟩ : ∃ M1, min N L.length = M1 := ⟨_, rfl⟩
      have hmi1 : (if L.length < N then (L.length : Int) else (N : Int)) = (M1 : Int) := by rw [← hM]; split <;> omega
      have hmi2 : (if (L.length : Int) < (N : Int) then (L.length : Int) else (N : Int)) = (M1 : Int) := by rw [← hM]; split <;> omega
      have hmc1 : (M1 : Int) ≤ (cap1 : Int) := by omega
      have hmn1 : M1 ≤ cap1 := by omega
      have hM1 : L.take N = L.take M1 := by rw [← hM, List.take_eq_take_iff]; omega
      have hn1 : (natInts (L.take M1)).length = M1 := by rw [natInts_len, List.length_take]; omega
      have hIw : IntsAt V2 A1 (natInts (L.take M1)) := by
        have e : natInts (L.take M1) = (natInts L).take M1 := List.map_take
        rw [e]; exact IntsAt.take KA2.out M1
      have KW := Lib.hid hIw
      have KN1 := Lib.hid hn1
      have KM1 := Lib.hid hM1
      have hlW : W.heap.size < V2.heap.size := by omega
      have KS := Lib.hid (fun W' (h : Below V2.heap.size V2 W') => show Below V2.heap.size V2 W' ∧ W'.cell? ⟨W.heap.size, 1, none⟩ = some (.int .i64 x.i) from ⟨h, (h.cell (p := ⟨W.heap.size, 1, none⟩) hlW).trans e1⟩)
      have SA := Lib.hid (fun W' (h : Below V2.heap.size V2 W' ∧ W'.cell? ⟨W.heap.size, 1, none⟩ = some (.int .i64 x.i)) => (HRL.out W' (I2.out.al.two.ar.below h.1 I2.out.al.two.ar.lt)).mono fun e w'' h2 => show ∃ A c, e = .returned (.slice A M1 c) ∧ IntsAt w'' A (natInts (L.take M1)) ∧ Below V2.heap.size V2 w'' ∧ w''.cell? ⟨W.heap.size, 1, none⟩ = some (.int .i64 x.i) from by
        obtain ⟨v, rfl, hr, hb⟩ := h2
        rw [KM1.out, KN1.out] at hr
        obtain ⟨A, c, rfl, hi⟩ := owns_intsAt hr
        exact ⟨A, c, rfl, hi, KS.out _ (h.1.trans (hb.mono h.1.size))⟩)
      have hM64 : M1 * 8 ≤ 140737488355328 := by omega
      have SL := Lib.hid (fun W' Av cv (hi : IntsAt W' Av (natInts (L.take M1))) (h : Below V2.heap.size V2 W' ∧ W'.cell? ⟨W.heap.size, 1, none⟩ = some (.int .i64 x.i)) =>
        (sameI_eq Av A1 cv cap1 M1 (natInts (L.take M1)) KN1.out hM64 W' hi (KW.out.below h.1 (Nat.le_refl _))).mono fun e w'' h2 => (⟨h2.1, KS.out _ (h.1.trans (h2.2.mono h.1.size))⟩ : e = .returned (.bool true) ∧ Below V2.heap.size V2 w'' ∧ w''.cell? ⟨W.heap.size, 1, none⟩ = some (.int .i64 x.i)))
      clear hM hM1 hn1 hIw hM64 HRL
      go_upto_region 16 with fail
      refine wp_region_cut (fun a' w' => ∃ (q : Nat → Value), (∀ i, q i = a'.tmps.getD i undef) ∧ a'.tmps = #[.slice (some ⟨bb, off, none⟩) xs.length cap, undef, .bool false, .pointer (some ⟨g, 0, none⟩), .pointer (some ⟨h, 0, none⟩), .int .i64 m, .pointer (some ⟨W.heap.size, 0, none⟩), .slice A1 L.length cap1, .int .i64 N, .func (.func 44) #[] #[.pointer (some ⟨Bq, 0, none⟩)], q 10, q 11, q 12, undef, undef, q 15, q 16, q 17, q 18, q 19, q 20, q 21, q 22, q 23, undef, undef, q 26, q 27, q 28, q 29, q 30, q 31, q 32, q 33, q 34, q 35, q 36, q 37, q 38, q 39, q 40, q 41, q 42, q 43, q 44, q 45, q 46, q 47, q 48, q 49, q 50, q 51, q 52, q 53, q 54, q 55, q 56, q 57, q 58, q 59, q 60, q 61, q 62, q 63, q 64, q 65, q 66, q 67, q 68, .bool false, q 70, q 71, q 72, q 73, q 74, q 75, q 76, q 77, q 78, q 79, q 80, q 81, q 82, q 83, q 84, q 85, q 86, q 87, q 88, q 89, q 90, q 91, q 92, q 93, q 94, undef, undef, undef, undef, undef, undef, undef, undef, undef, undef, undef, undef, undef] ∧ a'.defers = marks ds ∧ Below V2.heap.size V2 w') ?_ ?_
      · go_region_held3 (fun W' => Below V2.heap.size V2 W' ∧ W'.cell? ⟨W.heap.size, 1, none⟩ = some (.int .i64 x.i))
          (first | assumption | exact KS.out _ (Below.refl _ _).drew)
          (first
            | (go_at_call 17; refine (SA.out _ (by assumption)).mono ?_; rintro e wA ⟨AL, cL, rfl, hIA, hA⟩)
            | (go_at_call 14; refine (SL.out _ _ _ (by assumption) (by assumption)).mono ?_; rintro e wB ⟨rfl, hB⟩))
        all_goals exact ⟨fun i => Array.getD _ i undef, fun _ => rfl, by kernel_rfl, rfl, hB.1⟩
      rintro ⟨tm, df⟩ wB ⟨q2, hq, hF, hD, hb5⟩
      dsimp only at hq hF hD
      clear hq
      subst hF hD
      have hs5 := hb5.size
      have I5 := Lib.hid (I2.out.read hb5)
      have K5 := Lib.hid (KA2.out.below hb5 (Nat.le_refl _))
      have Q5 := Lib.hid (fun n₀ => (HSQ.out n₀).later hb5)
      clear hb5 SA SL KS KW KA2 HSQ I2 I1 KA1 BX1 BX2 e1 hmi1 hmi2
      --INNER
      go_wp2
      have I5' := Lib.hid I5.out
      refine wp_loop (fun a' W6 => ∃ (k : Nat) (es : List Nat) (q : Nat → Value), (∀ i, q i = a'.tmps.getD i undef) ∧ a'.tmps = #[.slice (some ⟨bb, off, none⟩) xs.length cap, undef, .bool false, .pointer (some ⟨g, 0, none⟩), .pointer (some ⟨h, 0, none⟩), .int .i64 m, .pointer (some ⟨W.heap.size, 0, none⟩), .slice A1 L.length cap1, .int .i64 N, .func (.func 44) #[] #[.pointer (some ⟨Bq, 0, none⟩)], .int .i64 k, q 11, q 12, undef, undef, q 15, q 16, q 17, q 18, q 19, q 20, q 21, q 22, q 23, undef, undef, q 26, q 27, q 28, q 29, q 30, q 31, q 32, q 33, q 34, q 35, q 36, q 37, q 38, q 39, q 40, q 41, q 42, q 43, q 44, q 45, q 46, q 47, q 48, q 49, q 50, q 51, q 52, q 53, q 54, q 55, q 56, q 57, q 58, q 59, q 60, q 61, q 62, q 63, q 64, q 65, q 66, q 67, q 68, q 69, q 70, q 71, q 72, q 73, q 74, q 75, q 76, q 77, q 78, q 79, q 80, q 81, q 82, q 83, q 84, q 85, q 86, q 87, q 88, q 89, q 90, q 91, q 92, q 93, q 94, undef, undef, undef, undef, undef, undef, undef, undef, undef, undef, undef, undef, undef] ∧ a'.defers = marks es ∧ k ≤ 2 ∧ InvR w3 g w1.heap.size h b m S R es W6 ∧ Below wB.heap.size wB W6) (fun a' _ => 2 - (intOf (a'.tmps.getD 10 undef)).toNat) ?_ ?_
      · exact ⟨0, ds, fun i => Array.getD _ i undef, fun _ => rfl, by kernel_rfl, rfl, Nat.zero_le _, I5'.out, Below.refl _ _⟩
      rintro ⟨tm, df⟩ W6 ⟨k, es, q3, hq, hF, hD, hk, hI6, hb6⟩
      dsimp only at hq hF hD
      clear hq
      subst hF hD
      have hs6 := hb6.size
      have I6 := Lib.hid hI6
      have B6 := Lib.hid hb6
      clear hI6 hb6 I5 I5'
      by_cases hk2 : k < 2
      · have hkt : (k : Int) < 2 := by omega
        go_wp2
        obtain ⟨Va, hVa⟩ : ∃ Va, W6.alloc (.cells #[.slice none 0 0] 44) = Va := ⟨_, rfl⟩
        have hVas : Va.heap.size ≤ W6.heap.size + 1 ∧ W6.heap.size + 1 ≤ Va.heap.size := by rw [← hVa]; simp
        have bL : Boxed Va W6.heap.size 44 (.slice none 0 0) := by rw [← hVa]; exact Boxed.new W6 _ _
        have hbVa : Below W6.heap.size W6 Va := by rw [← hVa]; exact (Below.refl _ _).alloc (Nat.le_refl _) _
        rw [hVa]
        clear hVa
        refine wp_seqs rfl (enters_of Tryd.func44 (by kernel_rfl) rfl) ((Q5.out W6.heap.size).later (B6.out.trans (hbVa.mono hs6))) (by omega) (fun k hk => by omega) (Below.refl _ _) (fun _ => rfl)
          (fun pre W' => ∃ v, Coll Va W6.heap.size 44 (Va.heap.size + 2) 3 1 pre.length (intVs (natInts pre)) W' v)
          (fun _ _ _ => False)
          (Zone.coll (by omega) (by omega) (Nat.le_refl _) (fun pre => pre.length) (fun pre => intVs (natInts pre)))
          (fun cd => Zone.none)
          ⟨_, Coll.start bL _ _ _⟩ ?round ?done ?stop
        case stop => rintro cd pre W' _ h _; exact h.elim
        case round =>
          intro l2 pre i V0 hpre
          simp only [natV]
          gi_wp2
          refine ⟨by trivial, fun V1 hsz1 ⟨v, hC⟩ => ?_⟩
          obtain ⟨p2, cap2, rfl⟩ := owns_slice hC.row
          have hc1 := hC.box.cell
          have hpl := hpre.length_le
          rw [List.length_append] at hpl
          have h1 : pre.length + (0 + 1) ≤ maxLen := by unfold maxLen; simp at hpl; omega
          have h2 : (pre.length + (0 + 1)) * 8 ≤ 140737488355328 := by simp at hpl; omega
          have H1 := Lib.hid h1
          have H2 := Lib.hid h2
          clear h1 h2
          gi_wp2_with (gi_at_builtin; refine wpListIn_append_new (v := .slice p2 pre.length cap2) rfl _ _ 44 rfl Tryd.underlying44 hi0 hz0 hz1 hz2 hz3 (by decide) rfl hC.row 0 rfl rfl (int_one _) H1.out H2.out hsz1 ?_; intro g' cap' w1' hown1 hgr1; obtain ⟨hv1, hC2, hk2'⟩ := hC.step (by omega) (by omega) hsz1 hown1 hgr1; have hc2 := hv1.cell; have hf2 := hv1.frozen)
          exact ⟨hk2' _ _ _ _ _ (by omega) (by omega) (fun k hk => by omega) (by omega) (by omega), ⟨_, by rw [natInts_snoc, List.length_append]; exact hC2⟩⟩
        case done =>
          rintro W7 ⟨v, hC⟩ hK7
          dsimp only
          rw [marks_cons]
          have hb7 : Below W6.heap.size W6 W7 := hbVa.trans (hC.below (Nat.le_refl _) (by omega))
          have hs7 := hC.grown.size
          obtain ⟨Al, cl, rfl, hIl⟩ := owns_intsAt hC.row
          have c11 := hC.box.cell
          have HSI := Lib.hid (sameI_eq Al A1 cl cap1 L.length (natInts L) (natInts_len _) (by omega) W7 hIl (K5.out.below (B6.out.trans (hb7.mono hs6)) (Nat.le_refl _)))
          have I7 := Lib.hid (I6.out.mark hb7 (by omega) hK7)
          have B7 := Lib.hid (B6.out.trans (hb7.mono hs6))
          clear hC hIl hK7 hb7 hbVa bL
          go_wp2_with (go_at_call 14; fail)
          refine HSI.out.mono ?_
          rintro e W8 ⟨rfl, hb8⟩
          have I8 := Lib.hid (I7.out.read hb8)
          have B8 := Lib.hid (B7.out.trans (hb8.mono B7.out.size))
          clear hb8 I7 B7 HSI c11
          go_wp2
          exact ⟨⟨k + 1, Va.heap.size :: es, fun i => Array.getD _ i undef, fun _ => rfl, by kernel_rfl, rfl, by omega, I8.out, B8.out⟩, by simp [intOf]; omega⟩
      · obtain rfl : k = 2 := by omega
        clear hk2 hk
        have HSM := Lib.hid (same_any W6 I6.out.al.two.ar I6.out.al.two.rf I6.out.al.ag)
        go_wp2_with (go_at_call 20; fail)
        refine HSM.out.mono ?_
        rintro e W9 ⟨rfl, hb9⟩
        have I9 := Lib.hid (I6.out.read hb9).next
        clear hb9 HSM I6
        go_wp2
        exact ⟨⟨m + 1, S, R, es, fun i => Array.getD _ i undef, fun _ => rfl, by kernel_rfl, rfl, by omega, I9.out⟩, by simp [intOf]; omega⟩
    · have hal := put16_agree HIV.out.al.ag x
      have HPT := Lib.hid (put16_any x V HIV.out.al.two.ar HIV.out.al.two.rf HIV.out.al.ag HIV.out.gl (by omega) HIV.out.w0 (by have := HIV.out.w1; omega))
      have HTU := Lib.hid (fun W' (a : Alike V g w1.heap.size h b (S.put16 x) (R.rput16 x) W') => HIV.out.turn a hal.2.1 (by omega))
      generalize S.put16 x = S2 at *
      generalize R.rput16 x = R2 at *
      clear hal hcK
      go_wp2_with (first
        | ((with_reducible show wpList _ _ _ (Oper.mk (some 35) (Op.load _ _) _ _ _ _ :: _) _ _); refine wpList_load_at (ty := 53) rfl rfl rfl HRW.out HU.out rfl act16Info ?_)
        | ((with_reducible show wpList _ _ _ (Oper.mk none (Op.store _ _ _) _ _ _ _ :: _) _ (World.alloc _ _)); refine wpList_store_new (ty := 53) rfl rfl rfl rfl rfl (Act16.one _) act16Info ?_)
        | (go_at_call 9; fail))
      refine (HC.out _).mono ?_
      rintro e w' ⟨rfl, rfl⟩
      rw [HVV.out]
      have BXR := Lib.hid BX.out.row
      clear cx0 HRW
      go_wp2_with (first
        | ((with_reducible show wpList _ _ _ (Oper.mk _ (Op.load 53 _) _ _ _ _ :: _) _ _); refine wpList_load_at (ty := 53) rfl rfl rfl BXR.out HU.out rfl act16Info ?_)
        | (go_at_call 18; fail))
      refine HPT.out.mono ?_
      rintro e W2 ⟨rfl, al2⟩
      have I2 := Lib.hid (HTU.out _ al2)
      have HSM := Lib.hid (same_any W2 I2.out.al.two.ar I2.out.al.two.rf I2.out.al.ag)
      clear al2 HPT HTU BXR
      go_wp2_with (go_at_call 20; fail)
      refine HSM.out.mono ?_
      rintro e W4 ⟨rfl, hb4⟩
      have I4 := Lib.hid (I2.out.read hb4)
      clear hb4 HSM I2
      go_wp2
      exact ⟨⟨m + 1, S2, R2, ds, fun i => Array.getD _ i undef, fun _ => rfl, by kernel_rfl, rfl, by omega, I4.out⟩, by simp [intOf]; omega⟩
    · have HPT := Lib.hid (does16_0 x V HIV.out.al.two.ar HIV.out.al.two.rf HIV.out.al.ag HIV.out.gl (by omega) LV.out (by omega) HIV.out.w0 (by have := HIV.out.w1; omega) hcK)
      have HTU := Lib.hid (fun W' (a : Alike V g w1.heap.size h b (S.push x.k x.i).2 (R.rpush x.k x.i).2 W') h1 h2 => HIV.out.turn a h1 h2)
      generalize (S.push x.k x.i).2 = S2 at *
      generalize (R.rpush x.k x.i).2 = R2 at *
      clear hcK
      go_wp2_with (first
        | ((with_reducible show wpList _ _ _ (Oper.mk (some 35) (Op.load _ _) _ _ _ _ :: _) _ _); refine wpList_load_at (ty := 53) rfl rfl rfl HRW.out HU.out rfl act16Info ?_)
        | ((with_reducible show wpList _ _ _ (Oper.mk none (Op.store _ _ _) _ _ _ _ :: _) _ (World.alloc _ _)); refine wpList_store_new (ty := 53) rfl rfl rfl rfl rfl (Act16.one _) act16Info ?_)
        | (go_at_call 9; fail))
      refine (HC.out _).mono ?_
      rintro e w' ⟨rfl, rfl⟩
      rw [HVV.out]
      have BXR := Lib.hid BX.out.row
      clear cx0 HRW
      go_wp2_with (first
        | ((with_reducible show wpList _ _ _ (Oper.mk _ (Op.load 53 _) _ _ _ _ :: _) _ _); refine wpList_load_at (ty := 53) rfl rfl rfl BXR.out HU.out rfl act16Info ?_)
        | (go_at_call 19; fail))
      refine HPT.out.mono ?_
      rintro e W2 ⟨rfl, al2, hw2, hw3⟩
      have I2 := Lib.hid (HTU.out _ al2 hw2 hw3)
      have HSM := Lib.hid (same_any W2 I2.out.al.two.ar I2.out.al.two.rf I2.out.al.ag)
      clear al2 hw2 hw3 HPT HTU BXR
      go_wp2_with (go_at_call 20; fail)
      refine HSM.out.mono ?_
      rintro e W4 ⟨rfl, hb4⟩
      have I4 := Lib.hid (I2.out.read hb4)
      clear hb4 HSM I2
      go_wp2
      exact ⟨⟨m + 1, S2, R2, ds, fun i => Array.getD _ i undef, fun _ => rfl, by kernel_rfl, rfl, by omega, I4.out⟩, by simp [intOf]; omega⟩
    · have HPT := Lib.hid (does16_1 x V HIV.out.al.two.ar HIV.out.al.two.rf HIV.out.al.ag HIV.out.gl (by omega) LV.out (by omega) HIV.out.w0 (by have := HIV.out.w1; omega) hcK)
      have HTU := Lib.hid (fun W' (a : Alike V g w1.heap.size h b (S.push x.k x.i).2 (R.rpush x.k x.i).2 W') h1 h2 => HIV.out.turn a h1 h2)
      generalize (S.push x.k x.i).2 = S2 at *
      generalize (R.rpush x.k x.i).2 = R2 at *
      clear hcK
      go_wp2_with (first
        | ((with_reducible show wpList _ _ _ (Oper.mk (some 35) (Op.load _ _) _ _ _ _ :: _) _ _); refine wpList_load_at (ty := 53) rfl rfl rfl HRW.out HU.out rfl act16Info ?_)
        | ((with_reducible show wpList _ _ _ (Oper.mk none (Op.store _ _ _) _ _ _ _ :: _) _ (World.alloc _ _)); refine wpList_store_new (ty := 53) rfl rfl rfl rfl rfl (Act16.one _) act16Info ?_)
        | (go_at_call 9; fail))
      refine (HC.out _).mono ?_
      rintro e w' ⟨rfl, rfl⟩
      rw [HVV.out]
      have BXR := Lib.hid BX.out.row
      clear cx0 HRW
      go_wp2_with (first
        | ((with_reducible show wpList _ _ _ (Oper.mk _ (Op.load 53 _) _ _ _ _ :: _) _ _); refine wpList_load_at (ty := 53) rfl rfl rfl BXR.out HU.out rfl act16Info ?_)
        | (go_at_call 19; fail))
      refine HPT.out.mono ?_
      rintro e W2 ⟨rfl, al2, hw2, hw3⟩
      have I2 := Lib.hid (HTU.out _ al2 hw2 hw3)
      have HSM := Lib.hid (same_any W2 I2.out.al.two.ar I2.out.al.two.rf I2.out.al.ag)
      clear al2 hw2 hw3 HPT HTU BXR
      go_wp2_with (go_at_call 20; fail)
      refine HSM.out.mono ?_
      rintro e W4 ⟨rfl, hb4⟩
      have I4 := Lib.hid (I2.out.read hb4)
      clear hb4 HSM I2
      go_wp2
      exact ⟨⟨m + 1, S2, R2, ds, fun i => Array.getD _ i undef, fun _ => rfl, by kernel_rfl, rfl, by omega, I4.out⟩, by simp [intOf]; omega⟩
    · have HPT := Lib.hid (does16_2 x V HIV.out.al.two.ar HIV.out.al.two.rf HIV.out.al.ag HIV.out.gl (by omega) LV.out (by omega) HIV.out.w0 (by have := HIV.out.w1; omega) hcK)
      have HTU := Lib.hid (fun W' (a : Alike V g w1.heap.size h b (S.dropR x.k x.i).2 (R.rdrop x.k x.i).2 W') h1 h2 => HIV.out.turn a h1 h2)
      generalize (S.dropR x.k x.i).2 = S2 at *
      generalize (R.rdrop x.k x.i).2 = R2 at *
      clear hcK
      go_wp2_with (first
        | ((with_reducible show wpList _ _ _ (Oper.mk (some 35) (Op.load _ _) _ _ _ _ :: _) _ _); refine wpList_load_at (ty := 53) rfl rfl rfl HRW.out HU.out rfl act16Info ?_)
        | ((with_reducible show wpList _ _ _ (Oper.mk none (Op.store _ _ _) _ _ _ _ :: _) _ (World.alloc _ _)); refine wpList_store_new (ty := 53) rfl rfl rfl rfl rfl (Act16.one _) act16Info ?_)
        | (go_at_call 9; fail))
      refine (HC.out _).mono ?_
      rintro e w' ⟨rfl, rfl⟩
      rw [HVV.out]
      have BXR := Lib.hid BX.out.row
      clear cx0 HRW
      go_wp2_with (first
        | ((with_reducible show wpList _ _ _ (Oper.mk _ (Op.load 53 _) _ _ _ _ :: _) _ _); refine wpList_load_at (ty := 53) rfl rfl rfl BXR.out HU.out rfl act16Info ?_)
        | (go_at_call 19; fail))
      refine HPT.out.mono ?_
      rintro e W2 ⟨rfl, al2, hw2, hw3⟩
      have I2 := Lib.hid (HTU.out _ al2 hw2 hw3)
      have HSM := Lib.hid (same_any W2 I2.out.al.two.ar I2.out.al.two.rf I2.out.al.ag)
      clear al2 hw2 hw3 HPT HTU BXR
      go_wp2_with (go_at_call 20; fail)
      refine HSM.out.mono ?_
      rintro e W4 ⟨rfl, hb4⟩
      have I4 := Lib.hid (I2.out.read hb4)
      clear hb4 HSM I2
      go_wp2
      exact ⟨⟨m + 1, S2, R2, ds, fun i => Array.getD _ i undef, fun _ => rfl, by kernel_rfl, rfl, by omega, I4.out⟩, by simp [intOf]; omega⟩
    · have HPT := Lib.hid (does16_3 x V HIV.out.al.two.ar HIV.out.al.two.rf HIV.out.al.ag HIV.out.gl (by omega) LV.out (by omega) HIV.out.w0 (by have := HIV.out.w1; omega) hcK)
      have HTU := Lib.hid (fun W' (a : Alike V g w1.heap.size h b (S.splice x.i x.k).2 (R.rsplice x.i x.k).2 W') h1 h2 => HIV.out.turn a h1 h2)
      generalize (S.splice x.i x.k).2 = S2 at *
      generalize (R.rsplice x.i x.k).2 = R2 at *
      clear hcK
      go_wp2_with (first
        | ((with_reducible show wpList _ _ _ (Oper.mk (some 35) (Op.load _ _) _ _ _ _ :: _) _ _); refine wpList_load_at (ty := 53) rfl rfl rfl HRW.out HU.out rfl act16Info ?_)
        | ((with_reducible show wpList _ _ _ (Oper.mk none (Op.store _ _ _) _ _ _ _ :: _) _ (World.alloc _ _)); refine wpList_store_new (ty := 53) rfl rfl rfl rfl rfl (Act16.one _) act16Info ?_)
        | (go_at_call 9; fail))
      refine (HC.out _).mono ?_
      rintro e w' ⟨rfl, rfl⟩
      rw [HVV.out]
      have BXR := Lib.hid BX.out.row
      clear cx0 HRW
      go_wp2_with (first
        | ((with_reducible show wpList _ _ _ (Oper.mk _ (Op.load 53 _) _ _ _ _ :: _) _ _); refine wpList_load_at (ty := 53) rfl rfl rfl BXR.out HU.out rfl act16Info ?_)
        | (go_at_call 19; fail))
      refine HPT.out.mono ?_
      rintro e W2 ⟨rfl, al2, hw2, hw3⟩
      have I2 := Lib.hid (HTU.out _ al2 hw2 hw3)
      have HSM := Lib.hid (same_any W2 I2.out.al.two.ar I2.out.al.two.rf I2.out.al.ag)
      clear al2 hw2 hw3 HPT HTU BXR
      go_wp2_with (go_at_call 20; fail)
      refine HSM.out.mono ?_
      rintro e W4 ⟨rfl, hb4⟩
      have I4 := Lib.hid (I2.out.read hb4)
      clear hb4 HSM I2
      go_wp2
      exact ⟨⟨m + 1, S2, R2, ds, fun i => Array.getD _ i undef, fun _ => rfl, by kernel_rfl, rfl, by omega, I4.out⟩, by simp [intOf]; omega⟩
  · obtain rfl : m = xs.length := by omega
    have hf32 : S.free.length ≤ 32 := nodup_len 32 _ HV.out.al.two.ar.nodup HV.out.al.two.ar.free_lt
    obtain ⟨Va, hVa⟩ : ∃ Va, W.alloc (.cells #[.slice none 0 0] 44) = Va := ⟨_, rfl⟩
    have hVas : Va.heap.size ≤ W.heap.size + 1 ∧ W.heap.size + 1 ≤ Va.heap.size := by rw [← hVa]; simp
    have bL : Boxed Va W.heap.size 44 (.slice none 0 0) := by rw [← hVa]; exact Boxed.new W _ _
    have hbVa : Below W.heap.size W Va := by rw [← hVa]; exact (Below.refl _ _).alloc (Nat.le_refl _) _
    have IA := Lib.hid (HV.out.read hbVa)
    have HFR := Lib.hid (frees_st g Va IA.out.al.two.ar)
    have HVA := Lib.hid hVa
    have HBL := Lib.hid bL
    have HBA := Lib.hid hbVa
    clear bL hbVa hVa
    go_wp2_with (go_at_call 12; fail)
    rw [HVA.out]
    refine HFR.out.mono ?_
    rintro e V2 ⟨Bq, rfl, hsq, hb2⟩
    have hs2 := hb2.size
    have I2 := Lib.hid (IA.out.read hb2)
    have BL2 := Lib.hid (show Boxed V2 W.heap.size 44 (.slice none 0 0) from (hb2.block _ HBL.out.lt).trans HBL.out)
    have HSQ := Lib.hid (hsq W.heap.size)
    have HB2 := Lib.hid (HBA.out.trans (hb2.mono (by omega)))
    clear hsq hb2 HFR IA HBL HBA
    go_wp2
    refine wp_seqs rfl (enters_of Tryd.func39 (by kernel_rfl) rfl) HSQ.out (by omega) (fun k hk => by omega) (Below.refl _ _) (fun _ => rfl)
      (fun pre W' => ∃ v, Coll V2 W.heap.size 44 (V2.heap.size + 2) 3 1 pre.length (intVs (natInts pre)) W' v)
      (fun _ _ _ => False)
      (Zone.coll (by omega) (by omega) (Nat.le_refl _) (fun pre => pre.length) (fun pre => intVs (natInts pre)))
      (fun cd => Zone.none)
      ⟨_, Coll.start BL2.out _ _ _⟩ ?round9 ?done9 ?stop9
    case stop9 => rintro cd pre W' _ h _; exact h.elim
    case round9 =>
      intro l2 pre i V0 hpre
      simp only [natV]
      gi_wp2
      refine ⟨by trivial, fun V1 hsz1 ⟨v, hC⟩ => ?_⟩
      obtain ⟨p2, cap2, rfl⟩ := owns_slice hC.row
      have hc1 := hC.box.cell
      have hpl := hpre.length_le
      rw [List.length_append] at hpl
      have h1 : pre.length + (0 + 1) ≤ maxLen := by unfold maxLen; simp at hpl; omega
      have h2 : (pre.length + (0 + 1)) * 8 ≤ 140737488355328 := by simp at hpl; omega
      have H1 := Lib.hid h1
      have H2 := Lib.hid h2
      clear h1 h2
      gi_wp2_with (gi_at_builtin; refine wpListIn_append_new (v := .slice p2 pre.length cap2) rfl _ _ 44 rfl Tryd.underlying44 hi0 hz0 hz1 hz2 hz3 (by decide) rfl hC.row 0 rfl rfl (int_one _) H1.out H2.out hsz1 ?_; intro g' cap' w1' hown1 hgr1; obtain ⟨hv1, hC2, hk2'⟩ := hC.step (by omega) (by omega) hsz1 hown1 hgr1; have hc2 := hv1.cell; have hf2 := hv1.frozen)
      exact ⟨hk2' _ _ _ _ _ (by omega) (by rintro ⟨h1, h2⟩; omega) (fun k hk => by rintro ⟨h1, h2⟩; omega) (by omega) (by omega), ⟨_, by rw [natInts_snoc, List.length_append]; exact hC2⟩⟩
    case done9 =>
      rintro W1 ⟨v, hC⟩ hK1
      dsimp only
      rw [marks_cons]
      have hbW1 : Below W.heap.size W W1 := HB2.out.trans (hC.below (Nat.le_refl _) (by omega))
      have hs1' := hC.grown.size
      obtain ⟨Al, cl, rfl, hIl⟩ := owns_intsAt hC.row
      have c13 := cell_regrown hC.box.cell
      have I1 := Lib.hid (HV.out.mark hbW1 (by omega) hK1)
      obtain ⟨cap3, junk3, vF, r⟩ := I1.out.al.two.rf
      obtain ⟨AF, cF, hvF, hIF, _, hc1, _⟩ := r.view
      rw [← I1.out.al.ag.free] at hIF hc1
      have c1 := cell_regrown hc1
      have HQ := Lib.hid (fun (d : Nat) (os : Array Obj) => Calls.regrown_of (sameI_eq Al AF cl cF S.free.length (natInts S.free) (natInts_len _) (by omega) (grow (redrawn W1 d) os) (hIl.below (below_regrown W1 d os) (Nat.le_refl _)) (hIF.below (below_regrown W1 d os) (Nat.le_refl _))))
      have BW1 := Lib.hid ((B3.out.trans (HV.out.al.two.below (n := w.heap.size) (by omega) (by omega) (by omega))).trans (hbW1.mono (by omega)))
      clear hC hIl hIF hK1 hbW1 r hc1 hvF HV HSQ BL2 HB2 I2
      go_wp2
      refine wp_region_quiet_below (by kernel_rfl) (by kernel_rfl) ?_
      repeat (first | go_big_quiet_skip | (go_big_quiet_want; go_big_quiet_op; first | go_big_quiet_on | go_big_quiet_call (with_reducible exact HQ.out _ _)))
      refine wpQuiet_nil ?_
      intro w5 hC5
      have HB5 := Lib.hid (below_class hC5)
      clear hC5 c13 c1 HQ
      go_wp2
      have hs5 := HB5.out.size
      refine leaves_marks (B := w3.heap.size) _ _ (I1.out.read HB5.out).mkd ?_ (by omega)
      intro W9 hb9 _
      exact ⟨_, results_tmp rfl _ _ _, rfl, (BW1.out.trans (HB5.out.mono (by omega))).trans (hb9.mono (by omega))⟩
end Go.Proofs.YtdgdbcapojgnlaaDoor
