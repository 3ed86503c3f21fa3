/-
  lineagelaw10: knownRows.
-/
import Derived.Test.YtpdpdojaaaipcaaDoorKn2
import Derived.Test.YtpdpdojaaaipcaaDoorReads
import Derived.Deep.RegionHeld3
import Derived.Deep.AppendLies
namespace Go.Proofs.YtpdpdojaaaipcaaDoor
set_option maxRecDepth 100000
open Go.RowKit
def K8 : List UInt8 := [0, 1, 2, 3, 127, 128, 129, 255]
def A5 : List AskV := [⟨false, 0, by decide⟩, ⟨true, 2, by decide⟩, ⟨true, -1, by decide⟩, ⟨false, 0, by decide⟩, ⟨true, 1099511627776, by decide⟩]
theorem built_ask0 : Tryd.prog.built 34 (#[] : Array (Nat × Value)).toList = some #[.bool false, .int .i64 0] := by kernel_rfl
theorem built_ask (n : Int) : Tryd.prog.built 34 (#[(0, .bool true), (1, .int .i64 n)] : Array (Nat × Value)).toList = some #[.bool true, .int .i64 n] := by kernel_rfl
theorem bsA (w : World) : (Instr.buildSlice 23 5 #[(0, .agg #[.bool false, .int .i64 0]), (1, .agg #[.bool true, .int .i64 2]), (2, .agg #[.bool true, .int .i64 (-1)]), (3, .agg #[.bool false, .int .i64 0]), (4, .agg #[.bool true, .int .i64 1099511627776])]).run Tryd.prog w = .ok (.slice (some ⟨w.heap.size, 0, none⟩) 5 5) (w.alloc (.cells (flat AskV.cells A5).toArray 34)) := by kernel_rfl
theorem asks_lit (w : World) (xs : List AskV) (n : Nat) : AsksAt (w.alloc (.cells (flat AskV.cells xs).toArray 34)) (some ⟨w.heap.size, n * 2, none⟩) (xs.drop n) := fun _ =>
  ⟨w.heap.size, n * 2, rfl, by simp, fun k y hk => ⟨fun j v hv => by
    rw [(Blk.new w _ _).cell, List.getElem?_toArray]
    rw [List.getElem?_drop] at hk
    have := flat_get AskV.size xs (n + k) y hk j v hv
    rwa [Nat.add_mul] at this⟩⟩
theorem bytes_lit (w : World) (l : List UInt8) : BytesAt (w.alloc (.cells (byv l).toArray 5)) (some ⟨w.heap.size, 0, none⟩) l := fun _ =>
  ⟨w.heap.size, 0, rfl, by simp, fun k x hk => by
    rw [(Blk.new w _ _).cell, Nat.zero_add]
    simp only [List.getElem?_toArray, byv, u8v, List.getElem?_map, hk]
    rfl⟩
theorem run_append_keep {P : Program} (w : World) (base : Nat) (t ty e : TypeId) (i : TypeInfo) (z : Value) (size bytes : Nat) (ht : P.underlying t = some (.slice e)) (hi : P.info? e = some i) (hz : i.zero = some z)
    (hsize : i.size = size) (hby : i.bytes = bytes) (hzs : z.cells.size = size) (hsz : 0 < size)
    (v : Value) (n : Nat) (xs : List Value) (hown : w.ownsRow base e size v n xs)
    (a : Addr) (m c : Nat) (news : List Value) (hl : news.length = m * size) (hnews : ∀ j u, news[j]? = some u → w.cell? (a.add j) = some u) (h1 : ∀ u ∈ news, u.oneCell' = true)
    (h63 : n + m ≤ maxLen) (hbytes : (n + m) * bytes ≤ 140737488355328) (hbase : base ≤ w.heap.size) :
    ∃ v' w', (Builtin.append_ #[t, t] ty #[v, .slice (some a) m c]).run P w = .ok v' w' ∧ w'.ownsRow base e size v' (n + m) (xs ++ news) ∧ Gr w w' v v' ∧ w'.ownsRow base e size v n xs := by
  obtain ⟨v', w', hr, ho, hg⟩ := run_append_gr w base t ty e i z size bytes ht hi hz hsize hby hzs hsz v n xs hown a m c news hl hnews h1 h63 hbytes hbase
  refine ⟨v', w', hr, ho, hg, ?_⟩
  rcases hg.own with hsame | ⟨_, hn⟩
  · subst hsize
    have hown2 := hown
    rcases hown2 with ⟨hx1, ⟨rfl, rfl⟩ | ⟨g, cap, cur, rfl, hbg, hgg, hnc, hcm, hcs, htake⟩⟩
    · exact ⟨hx1, .inl ⟨rfl, rfl⟩⟩
    · by_cases hroom : n + m ≤ cap
      · have hfit : n * i.size + news.length ≤ cur.size := by rw [hl, hcs, ← Nat.add_mul]; exact Nat.mul_le_mul_right _ hroom
        have hr2 := run_append_room (P := P) w t ty e i ht hi g n cap cur hgg a m c news hl hnews h1 hroom hfit
        rw [hr] at hr2
        injection hr2 with e1 e2
        rw [e2]
        refine ⟨hx1, .inr ⟨g, cap, _, rfl, hbg, setRow_heap w g cur _ e _ hgg, hnc, hcm, ?_, ?_⟩⟩
        · simp only [List.size_toArray, List.length_append, List.length_take, List.length_drop, Array.length_toList]
          omega
        · rw [htake, List.append_assoc, List.take_left' hx1]
      · have holds : ∀ j u, xs[j]? = some u → w.cell? ((⟨g, 0, none⟩ : Addr).add j) = some u := hown.cells (g := g) rfl
        have hr2 := run_append_grow (P := P) w t ty e i z ht hi hz ⟨g, 0, none⟩ n cap xs hown.1 holds a m c news hl hnews (by omega) (by have : n + m ≤ 9223372036854775807 := (by simp only [maxLen] at h63; omega); omega) (growslice_fits (by omega) (by rw [hby]; exact hbytes))
        rw [hr] at hr2
        injection hr2 with e1 e2
        rw [e1] at hsame
        have hlt := (hown.lt g rfl).2
        have hh : w.heap.size = g := Option.some.inj hsame
        omega
  · exact own_same hown fun q hq => hn.block q (hown.lt q hq).2 (by simp)
section
variable {P : Program} {ops : Array Oper} {rest : List Oper} {o : Oper} {a : Act} {w : World} {Q : Exit → Act → World → Prop}
/-- 'append' that is wanted, by a run that is known. -/
theorem wpList_append_want (hw : Region.wanted o (yielded ops a.tmps) = true) {sl x : Operand} {t u : TypeId} (ho : o.op = .call { callee := .builtin .append, args := #[sl, x], argTypes := #[t, u] }) {v y v' : Value} {w' : World} (hs : a.eval sl = v) (hx : a.eval x = y)
    (hr : (Builtin.append_ #[t, u] o.type #[v, y]).run P w = .ok v' w') (h : wpList P ops Q rest (a.put o.dst v') w') : wpList P ops Q (o :: rest) a w :=
  wpList_want hw fun K hK => by
    unfold Oper.wp execOp
    simp only [ho, resolve, invoke, builtin, Sem.run_bind, Sem.run_pure, Result.andThen_ok, List.map_toArray, List.map_cons, List.map_nil, hs, hx, hr]
    exact hK _ _ h
end
/-- An append at a step of a region that draws its order, under a guard. -/
theorem step_append_wanted {P : Program} {w : World} {ops : Array Oper} {o : Oper} {a : Act} {K : Act → World → Prop} {Q : Exit → Act → World → Prop} {E : Prop} (hw : Region.wanted o (yielded ops a.tmps) = true) (s x : Operand) (t : TypeId)
    (ho : o.op = .call { callee := .builtin .append, args := #[s, x], argTypes := #[t, t] })
    (base : Nat) (e : TypeId) (i : TypeInfo) (z : Value) (size bytes : Nat) (ht : P.underlying t = some (.slice e)) (hi : P.info? e = some i) (hz : i.zero = some z)
    (hsize : i.size = size) (hby : i.bytes = bytes) (hzs : z.cells.size = size) (hsz : 0 < size)
    (v : Value) (n : Nat) (xs : List Value) (hs : a.eval s = v) (hown : w.ownsRow base e size v n xs)
    (ad : Addr) (m c : Nat) (news : List Value) (hx : a.eval x = .slice (some ad) m c) (hl : news.length = m * size) (hnews : ∀ j u, news[j]? = some u → w.cell? (ad.add j) = some u) (h1 : ∀ u ∈ news, u.oneCell' = true)
    (hm : 0 < m) (h63 : n + m ≤ maxLen) (hbytes : (n + m) * bytes ≤ 140737488355328) (hbase : base ≤ w.heap.size)
    (h : ∀ g cap w', w'.ownsRow base e size (.slice (some ⟨g, 0, none⟩) (n + m) cap) (n + m) (xs ++ news) → w.grownBy w' v.ownBlock → K (a.put o.dst (.slice (some ⟨g, 0, none⟩) (n + m) cap)) w') :
    if Region.wanted o (yielded ops a.tmps) = true then Oper.wp P o a w K Q else E := by
  rw [if_pos hw]
  exact wp_append_lies w s x t ho base e i z size bytes ht hi hz hsize hby hzs hsz v n xs hs hown ad m c news hx hl hnews h1 hm h63 hbytes hbase _ rfl (fun g cap w' h2 h3 _ _ => h g cap w' h2 h3)
theorem KS.app {w W W' : World} {p : Addr} {x : Value} {row : Option Nat} (h : W.cell? p = some x ∧ Below w.heap.size w W) (hg : W.grownBy W' row) (hr : ∀ r, row = some r → w.heap.size ≤ r) (hp : p.block < w.heap.size) : W'.cell? p = some x ∧ Below w.heap.size w W' :=
  ⟨(World.cell?_of_block (a := p) (hg.block p.block (World.block_lt_of_cell? W p h.1) (fun e => by have := hr _ e.symm; omega))).trans h.1, h.2.grown hg h.2.size hr⟩
theorem KS.call {w W W' : World} {p : Addr} {x : Value} (h : W.cell? p = some x ∧ Below w.heap.size w W) (hb : Below W.heap.size W W') : W'.cell? p = some x ∧ Below w.heap.size w W' :=
  ⟨(hb.cell (p := p) (World.block_lt_of_cell? W p h.1)).trans h.1, h.2.trans (hb.mono h.2.size)⟩
/-- The four laws of a row of bytes. -/
theorem reads_few (W : World) (A : Option Addr) (cap : Nat) (b : List UInt8) (hb : BytesAt W A b) (hl : b.length ≤ 1000) (P : Option Addr) (cap2 : Nat) (xs : List AskV) (hx : AsksAt W P xs) (hn : xs.length ≤ 10) (hg : Laid W) :
    Calls Tryd.prog 3 #[.slice A b.length cap, .slice P xs.length cap2] W (RetB (.bool true) W) := reads_w A cap b P cap2 xs W hb hx (by omega) (by omega) hg
theorem back_few (W : World) (A : Option Addr) (cap : Nat) (b : List UInt8) (hb : BytesAt W A b) (hl : b.length ≤ 1000) (hnil : A = none → cap = 0 ∧ b = []) (hcap : b.length ≤ cap) (P : Option Addr) (cap2 : Nat) (xs : List AskV) (hx : AsksAt W P xs) (hn : xs.length ≤ 10) :
    Calls Tryd.prog 31 #[.slice A b.length cap, .slice P xs.length cap2] W (RetB (.bool true) W) := back_w A cap b P cap2 xs W hb hnil hcap hx (by omega) (by omega)
set_option maxHeartbeats 16000000 in
theorem knownRows_any (w : World) (hg : Laid w) : Calls Tryd.prog 17 #[] w (RetB (.bool true) w) := by
  obtain ⟨ii, iz, hi0, hz0, hz1, hz2, hz3⟩ := u8Info
  have HG := Lib.hid hg
  clear hg
  go_enter Tryd.func17, Tryd.ntmps17
  go_wp2_with (first
    | ((with_reducible show wpList _ _ _ (Oper.mk (some 12) (Op.build _ _) _ _ _ _ :: _) _ _); refine wpList_build_as (ps := #[]) rfl rfl (by simp) built_ask0 ?_; simp only [Act.put, List.setIfInBounds_toArray, List.set_cons_zero, List.set_cons_succ])
    | ((with_reducible show wpList _ _ _ (Oper.mk (some 13) (Op.build _ _) _ _ _ _ :: _) _ _); refine wpList_build_as (ps := #[(0, .bool true), (1, .int .i64 2)]) rfl rfl (by simp [Act.eval]) (built_ask 2) ?_; simp only [Act.put, List.setIfInBounds_toArray, List.set_cons_zero, List.set_cons_succ])
    | ((with_reducible show wpList _ _ _ (Oper.mk (some 14) (Op.build _ _) _ _ _ _ :: _) _ _); refine wpList_build_as (ps := #[(0, .bool true), (1, .int .i64 (-1))]) rfl rfl (by simp [Act.eval]) (built_ask (-1)) ?_; simp only [Act.put, List.setIfInBounds_toArray, List.set_cons_zero, List.set_cons_succ])
    | ((with_reducible show wpList _ _ _ (Oper.mk (some 15) (Op.build _ _) _ _ _ _ :: _) _ _); refine wpList_build_as (ps := #[]) rfl rfl (by simp) built_ask0 ?_; simp only [Act.put, List.setIfInBounds_toArray, List.set_cons_zero, List.set_cons_succ])
    | ((with_reducible show wpList _ _ _ (Oper.mk (some 16) (Op.build _ _) _ _ _ _ :: _) _ _); refine wpList_build_as (ps := #[(0, .bool true), (1, .int .i64 1099511627776)]) rfl rfl (by simp [Act.eval]) (built_ask 1099511627776) ?_; simp only [Act.put, List.setIfInBounds_toArray, List.set_cons_zero, List.set_cons_succ])
    | ((with_reducible show wpList _ _ _ (Oper.mk (some 17) (Op.buildSlice _ _ _) _ _ _ _ :: _) _ _); refine wpList_buildSlice_run (ps := #[(0, .agg #[.bool false, .int .i64 0]), (1, .agg #[.bool true, .int .i64 2]), (2, .agg #[.bool true, .int .i64 (-1)]), (3, .agg #[.bool false, .int .i64 0]), (4, .agg #[.bool true, .int .i64 1099511627776])]) rfl rfl (by simp [Act.eval, Act.put]) bsA ?_; simp only [Act.put, List.setIfInBounds_toArray, List.set_cons_zero, List.set_cons_succ]))
  obtain ⟨W2, hW2⟩ : ∃ W2, (w.alloc (.cells (byv K8).toArray 5)).alloc (.cells (flat AskV.cells A5).toArray 34) = W2 := ⟨_, rfl⟩
  have hs1 : (w.alloc (.cells (byv K8).toArray 5)).heap.size = w.heap.size + 1 := by simp
  have h8 : BytesAt W2 (some ⟨w.heap.size, 0, none⟩) K8 := by rw [← hW2]; exact (bytes_lit w K8).below ((Below.refl _ _).alloc (Nat.le_refl _) _) (Nat.le_refl _)
  have ha : ∀ n, AsksAt W2 (some ⟨w.heap.size + 1, n * 2, none⟩) (A5.drop n) := fun n => by rw [← hW2, ← hs1]; exact asks_lit _ A5 n
  have hbw : Below w.heap.size w W2 := by rw [← hW2]; exact ((Below.refl _ w).alloc (Nat.le_refl _) _).alloc (by rw [hs1]; omega) _
  have hsz : W2.heap.size = w.heap.size + 2 := by rw [← hW2]; simp
  try simp only [World.size_alloc]
  rw [show (w.alloc (.cells #[.int .u8 0, .int .u8 1, .int .u8 2, .int .u8 3, .int .u8 127, .int .u8 128, .int .u8 129, .int .u8 255] 5)).alloc (.cells (flat AskV.cells A5).toArray 34) = W2 from hW2]
  have HBW := Lib.hid hbw
  have HLB := Lib.hid (show w.heap.size < W2.heap.size by omega)
  have H8 := Lib.hid h8
  have HRD := Lib.hid (show ∀ (V : World) (A : Option Addr) (cap : Nat) (b : List UInt8), Below W2.heap.size W2 V → BytesAt V A b → b.length ≤ 1000 →
      Calls Tryd.prog 3 #[.slice A b.length cap, .slice (some ⟨w.heap.size + 1, 0, none⟩) 5 5] V (RetB (.bool true) V) ∧
      Calls Tryd.prog 3 #[.slice A b.length cap, .slice (some ⟨w.heap.size + 1, 2, none⟩) 4 4] V (RetB (.bool true) V) ∧
      Calls Tryd.prog 3 #[.slice A b.length cap, .slice (some ⟨w.heap.size + 1, 8, none⟩) 1 1] V (RetB (.bool true) V) from fun V A cap b hV hb hl => by
    have hg := HG.out.below (hbw.trans (hV.mono (by omega))) HG.out.pos
    exact ⟨reads_few V A cap b hb hl _ 5 A5 ((ha 0).below hV (Nat.le_refl _)) (by decide) hg, reads_few V A cap b hb hl _ 4 (A5.drop 1) ((ha 1).below hV (Nat.le_refl _)) (by decide) hg, reads_few V A cap b hb hl _ 1 (A5.drop 4) ((ha 4).below hV (Nat.le_refl _)) (by decide) hg⟩)
  have HBK := Lib.hid (show ∀ (V : World) (A : Option Addr) (cap : Nat) (b : List UInt8), Below W2.heap.size W2 V → BytesAt V A b → b.length ≤ 1000 → (A = none → cap = 0 ∧ b = []) → b.length ≤ cap →
      Calls Tryd.prog 31 #[.slice A b.length cap, .slice (some ⟨w.heap.size + 1, 0, none⟩) 5 5] V (RetB (.bool true) V) from fun V A cap b hV hb hl hnil hcap => back_few V A cap b hb hl hnil hcap _ 5 A5 ((ha 0).below hV (Nat.le_refl _)) (by decide))
  have HC8 := Lib.hid (show ∀ (W : World) (i : Nat), Below W2.heap.size W2 W → i < 8 → ∃ x : UInt8, W.cell? ⟨w.heap.size, i, none⟩ = some (.int .u8 (x.toNat : Int)) from fun W i hW hi => by
    obtain ⟨b1, o1, e1, hb1, hc1⟩ := h8 (by decide)
    injection e1 with e1
    injection e1 with e1 e2
    subst e1 e2
    obtain ⟨x, hx⟩ : ∃ x, K8[i]? = some x := ⟨_, List.getElem?_eq_getElem (show i < K8.length from hi)⟩
    have h := hc1 i x hx
    rw [Nat.zero_add] at h
    exact ⟨x, (hW.cell (p := ⟨w.heap.size, i, none⟩) (by simp only at hb1 ⊢; omega)).trans h⟩)
  clear hW2 hs1 h8 ha hbw hsz
  go_wp2
  go_loopw [3] (fun i wr => ∃ k : Nat, k ≤ 8 ∧ i = .int .i64 (k : Int) ∧ Below W2.heap.size W2 wr) (fun i _ => 8 - (intOf i).toNat)
  case atStart => exact ⟨0, Nat.zero_le _, rfl, Below.refl _ _⟩
  case round =>
    obtain ⟨i, hi, rfl, hb⟩ := hrel
    have HB := Lib.hid hb
    clear hb
    by_cases hlt : i < 8
    · have hii : (i : Int) < 8 := by omega
      go_wp2
      go_loopw [4] (fun i wr => ∃ k : Nat, k ≤ 8 ∧ i = .int .i64 (k : Int) ∧ Below W2.heap.size W2 wr) (fun i _ => 8 - (intOf i).toNat)
      case atStart => exact ⟨0, Nat.zero_le _, rfl, HB.out⟩
      case round =>
        clear HB
        obtain ⟨k, hk, rfl, hb⟩ := hrel
        have HB := Lib.hid hb
        clear hb
        by_cases hltk : k < 8
        · have hki : (k : Int) < 8 := by omega
          go_wp2
          go_loopw [5] (fun i wr => ∃ k : Nat, k ≤ 8 ∧ i = .int .i64 (k : Int) ∧ Below W2.heap.size W2 wr) (fun i _ => 8 - (intOf i).toNat)
          case atStart => exact ⟨0, Nat.zero_le _, rfl, HB.out⟩
          case round =>
            clear HB
            obtain ⟨j, hj, rfl, hb⟩ := hrel
            have HB := Lib.hid hb
            clear hb
            by_cases hltj : j < 8
            · have hji : (j : Int) < 8 := by omega
              obtain ⟨x, hx⟩ := HC8.out wr i HB.out hlt
              obtain ⟨y, hy⟩ := HC8.out wr k HB.out hltk
              obtain ⟨z, hz⟩ := HC8.out wr j HB.out hltj
              go_wp2
              go_region
              go_wp2_with (go_at_call 3; fail)
              have hb0 : BytesAt (wr.alloc (.cells #[.int .u8 (x.toNat : Int), .int .u8 (y.toNat : Int), .int .u8 (z.toNat : Int)] 5)).drew (some ⟨wr.heap.size, 0, none⟩) [x, y, z] := (bytes_lit wr [x, y, z]).below (bel_drw' _) (Nat.le_refl _)
              have hV0 : Below W2.heap.size W2 (wr.alloc (.cells #[.int .u8 (x.toNat : Int), .int .u8 (y.toNat : Int), .int .u8 (z.toNat : Int)] 5)).drew := (HB.out.alloc HB.out.size _).trans (Below.mono (bel_drw' _) (by simp; have := HB.out.size; omega))
              refine (HRD.out _ _ 3 [x, y, z] hV0 hb0 (by simp)).1.mono ?_
              rintro e V1 ⟨rfl, h1⟩
              have hb1 := hb0.below h1 (Nat.le_refl _)
              have hV1 := hV0.trans (h1.mono hV0.size)
              have HB1 := Lib.hid hb1
              have HV1 := Lib.hid hV1
              clear hb0 hV0 h1 hb1 hV1 hx hy hz
              go_wp2_with (go_at_call 3; fail)
              refine (HRD.out _ _ 3 [x, y, z] HV1.out HB1.out (by simp)).2.1.mono ?_
              rintro e V2 ⟨rfl, h1⟩
              have HB2 := Lib.hid (HB1.out.below h1 (Nat.le_refl _))
              have HV2 := Lib.hid (HV1.out.trans (h1.mono HV1.out.size))
              clear h1 HB1 HV1
              go_wp2_with (go_at_call 3; fail)
              refine (HRD.out _ _ 3 [x, y, z] HV2.out HB2.out (by simp)).2.2.mono ?_
              rintro e V3 ⟨rfl, h1⟩
              have HB3 := Lib.hid (HB2.out.below h1 (Nat.le_refl _))
              have HV3 := Lib.hid (HV2.out.trans (h1.mono HV2.out.size))
              clear h1 HB2 HV2
              go_wp2_with (go_at_call 31; fail)
              refine (HBK.out _ _ 3 [x, y, z] HV3.out HB3.out (by simp) (fun e => by cases e) (by simp)).mono ?_
              rintro e V4 ⟨rfl, h1⟩
              have HV4 := Lib.hid (HV3.out.trans (h1.mono HV3.out.size))
              clear h1 HB3 HV3
              go_wp2
              go_roundw
              case rel => exact ⟨j + 1, by omega, rfl, HV4.out⟩
              case measure => simp only [intOf]; omega
            · have hji : ¬ (j : Int) < 8 := by omega
              go_wp2
              go_roundw
              case rel => exact ⟨k + 1, by omega, rfl, HB.out⟩
              case measure => simp only [intOf]; omega
        · have hki : ¬ (k : Int) < 8 := by omega
          go_wp2
          go_roundw
          case rel => exact ⟨i + 1, by omega, rfl, HB.out⟩
          case measure => simp only [intOf]; omega
    · have hii : ¬ (i : Int) < 8 := by omega
      go_wp2
      go_loopw [7, 8] (fun v i wr => ∃ (n : Nat) (l : List UInt8), n ≤ 12 ∧ i = .int .i64 (n : Int) ∧ l.length = n ∧ wr.ownsRow W2.heap.size 5 1 v n (byv l) ∧ Below W2.heap.size W2 wr) (fun _ i _ => 12 - (intOf i).toNat)
      case atStart => exact ⟨0, [], Nat.zero_le _, rfl, rfl, ⟨rfl, .inl ⟨rfl, rfl⟩⟩, HB.out⟩
      case round =>
        clear HB hlt hi hii
        obtain ⟨n, l, hn, rfl, hln, hown, hb⟩ := hrel
        have HB := Lib.hid hb
        have HO := Lib.hid hown
        have HLN := Lib.hid hln
        rw [← hln] at hown
        obtain ⟨Ab, cb, hvb, hbb, _⟩ := own_by hown
        rw [hln] at hvb
        subst hvb
        have HBB := Lib.hid hbb
        clear hb hown hbb hln
        by_cases hltn : n < 12
        · have hni : (n : Int) < 12 := by omega
          obtain ⟨w5, rfl⟩ : ∃ w5, w5 = wr := ⟨wr, rfl⟩
          go_wp2
          go_loopw [9] (fun i wr => ∃ k : Nat, k ≤ 8 ∧ i = .int .i64 (k : Int) ∧ Below w5.heap.size w5 wr) (fun i _ => 8 - (intOf i).toNat)
          case atStart => exact ⟨0, Nat.zero_le _, rfl, Below.refl _ _⟩
          case round =>
            obtain ⟨k, hk, rfl, hb5⟩ := hrel
            have HB5 := Lib.hid hb5
            by_cases hltk : k < 8
            · have hki : (k : Int) < 8 := by omega
              obtain ⟨x, hx⟩ := HC8.out wr k (HB.out.trans (hb5.mono HB.out.size)) hltk
              have hks : wr.cell? ⟨w.heap.size, k, none⟩ = some (.int .u8 (x.toNat : Int)) ∧ Below wr.heap.size wr wr := ⟨hx, Below.refl _ _⟩
              have HCP := Lib.hid (fun (W : World) (hW : W.cell? ⟨w.heap.size, k, none⟩ = some (.int .u8 (x.toNat : Int)) ∧ Below wr.heap.size wr W) => copyB_any Ab n cb l HLN.out (by omega) W ((HBB.out.below hb5 (Nat.le_refl _)).below hW.2 (Nat.le_refl _)))
              have hkd := KS.call hks (bel_drw' wr)
              have H63 := Lib.hid (show n + 1 ≤ maxLen by unfold maxLen; omega)
              have H8b := Lib.hid (show (n + 1) * 1 ≤ 140737488355328 by omega)
              have HPB := Lib.hid (World.block_lt_of_cell? wr _ hx)
              clear hb5
              go_wp2
              refine wp_region_noPanic ?_
              go_region_held3 (fun W' => W'.cell? ⟨w.heap.size, k, none⟩ = some (.int .u8 (x.toNat : Int)) ∧ Below wr.heap.size wr W')
                (first | assumption | exact hkd | exact KS.call (by assumption) ba | exact KS.call (by assumption) ((Below.refl _ _).alloc (Nat.le_refl _) _) | exact KS.app (by assumption) hgrow (fun r e => Nat.le_trans (by simp) (howna.lt r e).1) HPB.out)
                (first
                  | (go_at_call 8; refine (HCP.out _ (by assumption)).mono ?_; rintro e wa ⟨va, rfl, howna, ba⟩)
                  | (refine step_append_wanted ?_ _ _ _ (by rfl) wr.heap.size 5 ii iz 1 1 Tryd.underlying22 hi0 hz0 hz1 hz2 hz3 (by decide) va n (byv l) ?_ ?_ ?_ 1 1 [.int .u8 (x.toNat : Int)] ?_ (by rfl) ?_ (by simp [Value.oneCell']) (by omega) H63.out H8b.out (by first | (have := ba.size; simp at this ⊢; omega) | (simp; omega)) ?_
                     · rfl
                     · rfl
                     · first | exact (own_low2 howna (by simp)).alloc _ | exact own_low2 howna (by simp)
                     rotate_left
                     · rfl
                     · first | exact World.news_of_block (cs := #[.int .u8 (x.toNat : Int)]) (t := 5) (fr := (0, 0)) (heap_alloc_new _ _) | exact World.news_of_block (cs := #[.int .u8 (x.toNat : Int)]) (t := 5) (fr := (0, 0)) ((ba.block _ (by simp)).trans (heap_alloc_new _ _))
                     rotate_left
                     intro gg cap ww hownw hgrow))
              all_goals refine NoPanic.normal ?_
              all_goals
                have hcar : Below wr.heap.size wr ww := (by assumption : ww.cell? ⟨w.heap.size, k, none⟩ = some (.int .u8 (x.toNat : Int)) ∧ Below wr.heap.size wr ww).2
                obtain ⟨L, hL⟩ : ∃ L, l ++ [x] = L := ⟨_, rfl⟩
                obtain ⟨NN, hNN⟩ : ∃ NN, n + 1 = NN := ⟨_, rfl⟩
                have hLl : L.length = NN := by rw [← hL, List.length_append, HLN.out]; exact hNN
                have hoc : ww.ownsRow wr.heap.size 5 1 (.slice (some ⟨gg, 0, none⟩) NN cap) NN (byv L) := by
                  rw [← hL, byv_append, ← hNN]; exact hownw
                have hNb : NN ≤ 13 := by omega
                have hbt : BytesAt ww (some ⟨gg, 0, none⟩) L := by
                  rw [← hLl] at hoc
                  obtain ⟨A, c, e, hb, _⟩ := own_by hoc
                  injection e with e1 _ _
                  rw [e1]; exact hb
                have hW2 : Below W2.heap.size W2 ww := (HB.out.trans (HB5.out.mono HB.out.size)).trans (hcar.mono (HB.out.trans (HB5.out.mono HB.out.size)).size)
                have hr1 := (HRD.out ww (some ⟨gg, 0, none⟩) cap L hW2 hbt (by omega)).1
                rw [hLl] at hr1
                have HR1 := Lib.hid hr1
                have HOC := Lib.hid hoc
                have HW2 := Lib.hid hW2
                have HCAR := Lib.hid hcar
                have HLL := Lib.hid hLl
                rw [hNN]
                clear hgrow howna ba hownw hcar hoc hbt hW2 hr1 hL hNN hks hkd hx HCP
                go_wp2_with (go_at_call 3; fail)
                refine HR1.out.mono ?_
                rintro e V1 ⟨rfl, h1⟩
                have hbV1 : Below wr.heap.size wr V1 := HCAR.out.trans (h1.mono HCAR.out.size)
                have hc1 := own_below HOC.out h1
                have hWV1 : Below W2.heap.size W2 V1 := HW2.out.trans (h1.mono HW2.out.size)

                obtain ⟨v1, U1, hr1, ho1, hg1, hk1⟩ := run_append_keep (P := Tryd.prog) (V1.alloc (.cells #[.int .u8 0] 5)) wr.heap.size 22 22 5 ii iz 1 1 Tryd.underlying22 hi0 hz0 hz1 hz2 hz3 (by decide) _ NN (byv L) (hc1.alloc _) ⟨V1.heap.size, 0, none⟩ 1 1 [.int .u8 0] rfl
                  (fun j u hu => by rw [Addr.add_lit, Nat.zero_add, (Blk.new V1 _ _).cell]; simpa using hu) (fun u hu => by simp at hu; subst hu; rfl) (by unfold maxLen; omega) (by omega) (by simp; have := hbV1.size; omega)

                obtain ⟨g1, c1, rfl, _⟩ := own_val ho1 (Nat.succ_pos _)
                have hbU1 : Below wr.heap.size wr U1 := bel_grows (hbV1.alloc hbV1.size _) hg1.grows (hc1.alloc _) (Nat.le_refl _) (by simp; have := hbV1.size; omega)
                have hWU1 : Below W2.heap.size W2 U1 := (HB.out.trans (HB5.out.mono HB.out.size)).trans (hbU1.mono (HB.out.trans (HB5.out.mono HB.out.size)).size)
                have hl1 : (L ++ [0]).length = NN + 1 := by rw [List.length_append, HLL.out]; rfl
                have hbt1 : BytesAt U1 (some ⟨g1, 0, none⟩) (L ++ [0]) := by
                  have ho : U1.ownsRow wr.heap.size 5 1 (.slice (some ⟨g1, 0, none⟩) (NN + 1) c1) (NN + 1) (byv (L ++ [0])) := by rw [byv_append]; exact ho1
                  rw [← hl1] at ho
                  obtain ⟨A, c, e, hb, _⟩ := own_by ho
                  injection e with e1 _ _
                  rw [e1]; exact hb
                have hq1 := (HRD.out U1 (some ⟨g1, 0, none⟩) c1 (L ++ [0]) hWU1 hbt1 (by omega)).1
                rw [hl1] at hq1
                obtain ⟨N1, hN1⟩ : ∃ N1, NN + 1 = N1 := ⟨_, rfl⟩
                rw [hN1] at hq1 hr1
                have HQ1 := Lib.hid hq1
                have HRA := Lib.hid hr1
                have HK1 := Lib.hid hk1
                have HBU1 := Lib.hid hbU1
                clear h1 hc1 hWV1 hbV1 ho1 hg1 hbU1 hWU1 hl1 hbt1 hq1 hr1 hk1
                go_wp2_with (first
                  | (go_at_call 3; fail)
                  | (at_builtin; refine wpList_append_want rfl rfl rfl rfl HRA.out ?_; simp only [Act.put, List.setIfInBounds_toArray, List.set_cons_zero, List.set_cons_succ]))
                refine HQ1.out.mono ?_
                rintro e V2 ⟨rfl, h2⟩
                have hbV2 : Below wr.heap.size wr V2 := HBU1.out.trans (h2.mono HBU1.out.size)
                have hc2 := own_below HK1.out h2

                obtain ⟨v2, U2, hr2, ho2, hg2, hk2⟩ := run_append_keep (P := Tryd.prog) (V2.alloc (.cells #[.int .u8 1] 5)) wr.heap.size 22 22 5 ii iz 1 1 Tryd.underlying22 hi0 hz0 hz1 hz2 hz3 (by decide) _ NN (byv L) (hc2.alloc _) ⟨V2.heap.size, 0, none⟩ 1 1 [.int .u8 1] rfl
                  (fun j u hu => by rw [Addr.add_lit, Nat.zero_add, (Blk.new V2 _ _).cell]; simpa using hu) (fun u hu => by simp at hu; subst hu; rfl) (by unfold maxLen; omega) (by omega) (by simp; have := hbV2.size; omega)

                obtain ⟨g2, c2, rfl, _⟩ := own_val ho2 (Nat.succ_pos _)
                have hbU2 : Below wr.heap.size wr U2 := bel_grows (hbV2.alloc hbV2.size _) hg2.grows (hc2.alloc _) (Nat.le_refl _) (by simp; have := hbV2.size; omega)
                have hWU2 : Below W2.heap.size W2 U2 := (HB.out.trans (HB5.out.mono HB.out.size)).trans (hbU2.mono (HB.out.trans (HB5.out.mono HB.out.size)).size)
                have hl2 : (L ++ [1]).length = NN + 1 := by rw [List.length_append, HLL.out]; rfl
                have hbt2 : BytesAt U2 (some ⟨g2, 0, none⟩) (L ++ [1]) := by
                  have ho : U2.ownsRow wr.heap.size 5 1 (.slice (some ⟨g2, 0, none⟩) (NN + 1) c2) (NN + 1) (byv (L ++ [1])) := by rw [byv_append]; exact ho2
                  rw [← hl2] at ho
                  obtain ⟨A, c, e, hb, _⟩ := own_by ho
                  injection e with e1 _ _
                  rw [e1]; exact hb
                have hq2 := (HRD.out U2 (some ⟨g2, 0, none⟩) c2 (L ++ [1]) hWU2 hbt2 (by omega)).1
                rw [hl2, hN1] at hq2
                rw [hN1] at hr2
                have HQ2 := Lib.hid hq2
                have HRB := Lib.hid hr2
                have HBU2 := Lib.hid hbU2
                clear h2 hc2 hbV2 ho2 hg2 hbU2 hWU2 hl2 hbt2 hq2 hr2 hk2 hN1
                go_wp2_with (first
                  | (go_at_call 3; fail)
                  | (at_builtin; refine wpList_append_want rfl rfl rfl rfl HRB.out ?_; simp only [Act.put, List.setIfInBounds_toArray, List.set_cons_zero, List.set_cons_succ]))
                refine HQ2.out.mono ?_
                rintro e V3 ⟨rfl, h3⟩
                have H3 := Lib.hid (HB5.out.trans ((HBU2.out.trans (h3.mono HBU2.out.size)).mono HB5.out.size))
                clear h3
                go_wp2
                go_roundw
                case rel => exact ⟨k + 1, by omega, rfl, H3.out⟩
                case measure => simp only [intOf]; omega
            · have hki : ¬ (k : Int) < 8 := by omega
              have hown := own_below HO.out HB5.out
              obtain ⟨v', w6, hr, ho6, hg6⟩ := run_append_gr (P := Tryd.prog) (wr.alloc (.cells #[.int .u8 255] 5)) W2.heap.size 22 22 5 ii iz 1 1 Tryd.underlying22 hi0 hz0 hz1 hz2 hz3 (by decide) _ n (byv l) (hown.alloc _) ⟨wr.heap.size, 0, none⟩ 1 1 [.int .u8 255] rfl
                (fun j u hu => by rw [Addr.add_lit, Nat.zero_add, (Blk.new wr _ _).cell]; simpa using hu) (fun u hu => by simp at hu; subst hu; rfl) (by unfold maxLen; omega) (by omega) (by simp; have := HB.out.size; have := HB5.out.size; omega)
              have hb6 : Below W2.heap.size W2 wr := HB.out.trans (HB5.out.mono HB.out.size)
              have HB6 := Lib.hid (bel_grows (hb6.alloc hb6.size _) hg6.grows (hown.alloc _) (Nat.le_refl _) (by simp; have := hb6.size; omega))
              have HO6 := Lib.hid (show w6.ownsRow W2.heap.size 5 1 v' (n + 1) (byv (l ++ [255])) by rw [byv_append]; exact ho6)
              have HR6 := Lib.hid hr
              clear hown hr ho6 hg6 hb6 hb5
              go_wp2_with (at_builtin; refine wpList_append_run rfl rfl rfl rfl HR6.out ?_)
              go_roundw
              case rel => exact ⟨n + 1, l ++ [255], by omega, rfl, by rw [List.length_append, HLN.out]; rfl, HO6.out, HB6.out⟩
              case measure => simp only [intOf]; omega
        · have hni : ¬ (n : Int) < 12 := by omega
          go_wp2
          go_ret
          exact ⟨rfl, HBW.out.trans (HB.out.mono (by have := HBW.out.size; omega))⟩
end Go.Proofs.YtpdpdojaaaipcaaDoor
