/-
  pack's reader: take.
-/
import Derived.Test.YtpdpdojaaaipcaaDoorPkS
import Derived.Defers
import Derived.Recover
import Derived.Laws.Pointers
namespace Go.Proofs.YtpdpdojaaaipcaaDoor
set_option maxRecDepth 100000
open Go.RowKit
theorem catch_idle (p q r : Addr) (w : World) :
    CallsD Tryd.prog 39 #[.pointer (some p), .pointer (some q), .pointer (some r)] .returning w fun e u' w' => e = .returned (.tuple #[]) ∧ u' = .returning ∧ w' = w := by
  refine callsD_of_wpS Tryd.func39 rfl fun c₀ cs hu => ?_
  apply wpS_seq
  apply wpS_region
  simp [wpOpsS, go_sem, recoverD, hu, errno, Tryd.ntmps39, Exit.thenS]
  refine wpS_of_wp ?_
  simp only [Array.replicate_succ, Array.replicate_zero, List.push_toArray, List.setIfInBounds_toArray, List.append_toArray, List.nil_append, List.cons_append, List.set_cons_succ, List.set_cons_zero]
  go_wp2
  cases c₀
  simp_all [bodyPostS, results, Tryd.results39]
theorem catch_panicking (p q : Addr) (g rb : Nat) (k j cc : Int) (older : List PanicEntry) (w : World) (hp : w.cell? p = some (.int .i64 k)) (hq : w.cell? q = some (.pointer (some ⟨g, 0, none⟩))) (hg : w.cell? ⟨g, 1, none⟩ = some (.int .i64 j)) (hgz : w.frozen? ⟨g, 1, none⟩ = false) (hr : w.cell? ⟨rb, 0, none⟩ = some .nilIface) (hrz : w.frozen? ⟨rb, 0, none⟩ = false) (hne : rb ≠ g) :
    CallsD Tryd.prog 39 #[.pointer (some p), .pointer (some q), .pointer (some ⟨rb, 0, none⟩)] (.panicking ({ v := errno cc, recovered := false } :: older)) w fun e u' w' => e = .returned (.tuple #[]) ∧ u' = .panicking ({ v := errno cc, recovered := true } :: older) ∧ w' = (w.setCell ⟨g, 1, none⟩ (.int .i64 k)).setCell ⟨rb, 0, none⟩ (errno cc) := by
  refine callsD_of_wpS Tryd.func39 rfl fun c₀ cs hu => ?_
  have hr2 : (w.setCell ⟨g, 1, none⟩ (.int .i64 k)).cell? ⟨rb, 0, none⟩ = some .nilIface := by simpa [go_sem, hne] using hr
  have hrz2 : (w.setCell ⟨g, 1, none⟩ (.int .i64 k)).frozen? ⟨rb, 0, none⟩ = false := by simpa [go_sem] using hrz
  have hta : ∀ w : World, (Instr.typeAssert (.iface 48 (.int .i64 cc)) 20 48 true).run Tryd.prog w = .ok (.tuple #[.int .i64 cc, .bool true]) w := fun _ => rfl
  apply wpS_seq
  apply wpS_region
  simp [wpOpsS, go_sem, recoverD, hu, errno, Tryd.ntmps39, Exit.thenS]
  refine wpS_of_wp ?_
  simp only [Array.replicate_succ, Array.replicate_zero, List.push_toArray, List.setIfInBounds_toArray, List.append_toArray, List.nil_append, List.cons_append, List.set_cons_succ, List.set_cons_zero]
  go_wp2
  cases c₀
  simp_all [bodyPostS, results, Tryd.results39]
/-- What a reader's call turns: its own block, the block c, new memory. -/
structure Kp (w w' : World) (g c : Nat) : Prop where
  os : w'.os = w.os
  tape : w'.tape = w.tape
  output : w'.output = w.output
  size : w.heap.size ≤ w'.heap.size
  block : ∀ k, k < w.heap.size → k ≠ g → k ≠ c → w'.heap[k]? = w.heap[k]?
theorem Kp.refl (w : World) (g c : Nat) : Kp w w g c := ⟨rfl, rfl, rfl, Nat.le_refl _, fun _ _ _ _ => rfl⟩
theorem Kp.trans {w w1 w2 : World} {g c : Nat} (h : Kp w w1 g c) (h2 : Kp w1 w2 g c) : Kp w w2 g c :=
  ⟨h2.os.trans h.os, h2.tape.trans h.tape, h2.output.trans h.output, Nat.le_trans h.size h2.size, fun k hk hg hc => (h2.block k (Nat.lt_of_lt_of_le hk h.size) hg hc).trans (h.block k hk hg hc)⟩
theorem Kp.ofBelow {w w1 : World} (g c : Nat) (h : Below w.heap.size w w1) : Kp w w1 g c :=
  ⟨h.os, h.tape, h.output, h.size, fun k hk _ _ => h.block k hk⟩
theorem Kp.ofGrown {w w1 : World} {g : Nat} (c : Nat) (h : w.grownBy w1 (some g)) : Kp w w1 g c :=
  ⟨h.os, h.tape, h.output, h.size, fun k hk hg _ => h.block k hk (fun e => hg (Option.some.inj e))⟩
theorem Kp.setNew {w w1 : World} {g c r i : Nat} {u : Value} (h : Kp w w1 g c) (hr : w.heap.size ≤ r) : Kp w (w1.setCell ⟨r, i, none⟩ u) g c :=
  ⟨h.os, h.tape, h.output, by simpa using h.size, fun k hk hg hc => (Below.heap_setCell w1 ⟨r, i, none⟩ u k (fun e => by simp at e; omega)).trans (h.block k hk hg hc)⟩
theorem Kp.setG {w w1 : World} {g c i : Nat} {u : Value} (h : Kp w w1 g c) : Kp w (w1.setCell ⟨g, i, none⟩ u) g c :=
  ⟨h.os, h.tape, h.output, by simpa using h.size, fun k hk hg hc => (Below.heap_setCell w1 ⟨g, i, none⟩ u k hg).trans (h.block k hk hg hc)⟩
theorem Kp.setC {w w1 : World} {g c i : Nat} {u : Value} (h : Kp w w1 g c) : Kp w (w1.setCell ⟨c, i, none⟩ u) g c :=
  ⟨h.os, h.tape, h.output, by simpa using h.size, fun k hk hg hc => (Below.heap_setCell w1 ⟨c, i, none⟩ u k hc).trans (h.block k hk hg hc)⟩
theorem IsR.far {w w0 : World} {g : Nat} {v : Value} {b : List UInt8} {j k : Nat} (h : IsR w g v b j) (h0 : IsR w0 g v b k) {r i : Nat} {u : Value} (hr : w0.heap.size ≤ r) : IsR (w.setCell ⟨r, i, none⟩ u) g v b j :=
  ⟨h.blk.far (by have := h0.blk.lt; simp; omega) u, h.own.imp fun _ ho => ho.kept (grownBy_set w r i u) (.inr fun e => by
    obtain ⟨_, ho0⟩ := h0.own
    have := (ho0.lt r e).2; omega), h.ne, h.le⟩
theorem Blk.kp {w w' : World} {r g c : Nat} {t : TypeId} {cs : Array Value} (h : Blk w r t cs) (hk : Kp w w' g c) (hg : r ≠ g) (hc : r ≠ c) : Blk w' r t cs := ⟨(hk.block r h.lt hg hc).trans h.eq⟩
set_option maxHeartbeats 2000000 in
theorem take_ok (f : FuncId) (caps : Array Value) (g : Nat) (v : Value) (b : List UInt8) (k j c : Nat) (X : Value) (w : World) (h : IsR w g v b k) (hc : c < w.heap.size)
    (hce : ∀ W : World, (callFunc f caps).run Tryd.prog W = .ok (.enter f caps) W)
    (HF : ∀ W, Below w.heap.size w W → Calls Tryd.prog f caps W fun e W' => e = .returned (.tuple #[]) ∧ IsR W' g v b j ∧ Kp W W' g c ∧ W'.cell? ⟨c, 0, none⟩ = some X) :
    Calls Tryd.prog 24 #[.pointer (some ⟨g, 0, none⟩), .func (.func f) #[] caps] w fun e w' => e = .returned .nilIface ∧ IsR w' g v b j ∧ Kp w w' g c ∧ w'.cell? ⟨c, 0, none⟩ = some X := by
  have hmf : ∀ (fn : Fn) (first cap : Array Value) (w : World), (Instr.makeFunc fn first cap).run Tryd.prog w = .ok (.func fn first cap) w := fun _ _ _ _ => rfl
  have HR := Lib.hid h
  have c1 := h.blk.cell 1
  simp only [List.getElem?_toArray, List.getElem?_cons_zero, List.getElem?_cons_succ] at c1
  have hgl := h.blk.lt
  have HH := Lib.hid HF
  have HC := Lib.hid hc
  clear h HF hc
  go_enter_defers Tryd.func24, Tryd.ntmps24
  go_wp2
  obtain ⟨W3, hW3⟩ : ∃ W3, ((w.alloc (.cells #[.pointer (some ⟨g, 0, none⟩)] 25)).alloc (.cells #[.nilIface] 31)).alloc (.cells #[.int .i64 (k : Int)] 3) = W3 := ⟨_, rfl⟩
  have hN0 : (w.alloc (.cells #[.pointer (some ⟨g, 0, none⟩)] 25)).heap.size = w.heap.size + 1 := by simp [go_sem]
  have hN1 : ((w.alloc (.cells #[.pointer (some ⟨g, 0, none⟩)] 25)).alloc (.cells #[.nilIface] 31)).heap.size = w.heap.size + 1 + 1 := by simp [go_sem]
  have hB3 : Below w.heap.size w W3 := by
    rw [← hW3]
    exact (((Below.refl _ w).alloc (Nat.le_refl _) _).alloc (by rw [hN0]; omega) _).alloc (by rw [hN1]; omega) _
  have hS3 : W3.heap.size = w.heap.size + 3 := by rw [← hW3]; simp [go_sem]
  have b0 : Blk W3 w.heap.size 25 #[.pointer (some ⟨g, 0, none⟩)] := by rw [← hW3]; exact ((Blk.new _ _ _).alloc _).alloc _
  have b1 : Blk W3 (w.heap.size + 1) 31 #[.nilIface] := by rw [← hW3]; exact (Blk.new_at hN0.symm).alloc _
  have b2 : Blk W3 (w.heap.size + 1 + 1) 3 #[.int .i64 (k : Int)] := by rw [← hW3]; exact Blk.new_at hN1.symm
  rw [hW3]
  clear hW3 hN0 hN1
  refine (HH.out W3 hB3).mono ?_
  rintro e w1 ⟨rfl, h1, h2, h3⟩
  have d1 := Blk.kp b1 h2 (by omega) (by have := HC.out; omega)
  have x1 := d1.cell 0
  have z1 := d1.frozen 0
  have d1' := d1.set_ 0 .nilIface
  have y1 := d1'.cell 0
  simp only [List.getElem?_toArray, List.getElem?_cons_zero, List.getElem?_cons_succ, List.setIfInBounds_toArray, List.set_cons_zero] at x1 y1
  have H1 := Lib.hid h1
  have H2 := Lib.hid h2
  have H3 := Lib.hid h3
  clear h1 h2 h3 b0 b1 b2 d1 d1'
  go_wp2
  refine leaves_cons (f := 39) (args := #[.pointer (some ⟨w.heap.size + 1 + 1, 0, none⟩), .pointer (some ⟨w.heap.size, 0, none⟩), .pointer (some ⟨w.heap.size + 1, 0, none⟩)]) (by simp) (by simp [go_sem]) ?_
  refine (catch_idle _ _ _ _).mono ?_
  rintro e u' w'' ⟨rfl, rfl, rfl⟩
  simp [Leaves, settle, results, Tryd.results24, go_sem, y1]
  have hcn : (⟨w.heap.size + 1, 0, none⟩ : Addr) ≠ ⟨c, 0, none⟩ := fun e => by have h1 := congrArg Addr.block e; have h2 := HC.out; simp only at h1; omega
  exact ⟨H1.out.far HR.out (by omega), ((Kp.ofBelow g c hB3).trans H2.out).setNew (by omega), (World.cell?_setCell_other _ _ _ _ hcn).trans H3.out⟩
set_option maxHeartbeats 2000000 in
theorem take_err (f : FuncId) (caps : Array Value) (g : Nat) (v : Value) (b : List UInt8) (k c : Nat) (cc : Int) (w : World) (h : IsR w g v b k) (hc : c < w.heap.size)
    (hce : ∀ W : World, (callFunc f caps).run Tryd.prog W = .ok (.enter f caps) W)
    (HF : ∀ W, Below w.heap.size w W → Calls Tryd.prog f caps W fun e W' => e = pnk cc ∧ (∃ j, IsR W' g v b j) ∧ Kp W W' g c) :
    Calls Tryd.prog 24 #[.pointer (some ⟨g, 0, none⟩), .func (.func f) #[] caps] w fun e w' => e = .returned (errno cc) ∧ IsR w' g v b k ∧ Kp w w' g c := by
  have hmf : ∀ (fn : Fn) (first cap : Array Value) (w : World), (Instr.makeFunc fn first cap).run Tryd.prog w = .ok (.func fn first cap) w := fun _ _ _ _ => rfl
  have HR := Lib.hid h
  have c1 := h.blk.cell 1
  simp only [List.getElem?_toArray, List.getElem?_cons_zero, List.getElem?_cons_succ] at c1
  have hgl := h.blk.lt
  have HH := Lib.hid HF
  have HC := Lib.hid hc
  clear h HF hc
  go_enter_defers Tryd.func24, Tryd.ntmps24
  go_wp2
  obtain ⟨W3, hW3⟩ : ∃ W3, ((w.alloc (.cells #[.pointer (some ⟨g, 0, none⟩)] 25)).alloc (.cells #[.nilIface] 31)).alloc (.cells #[.int .i64 (k : Int)] 3) = W3 := ⟨_, rfl⟩
  have hN0 : (w.alloc (.cells #[.pointer (some ⟨g, 0, none⟩)] 25)).heap.size = w.heap.size + 1 := by simp [go_sem]
  have hN1 : ((w.alloc (.cells #[.pointer (some ⟨g, 0, none⟩)] 25)).alloc (.cells #[.nilIface] 31)).heap.size = w.heap.size + 1 + 1 := by simp [go_sem]
  have hB3 : Below w.heap.size w W3 := by
    rw [← hW3]
    exact (((Below.refl _ w).alloc (Nat.le_refl _) _).alloc (by rw [hN0]; omega) _).alloc (by rw [hN1]; omega) _
  have hS3 : W3.heap.size = w.heap.size + 3 := by rw [← hW3]; simp [go_sem]
  have b0 : Blk W3 w.heap.size 25 #[.pointer (some ⟨g, 0, none⟩)] := by rw [← hW3]; exact ((Blk.new _ _ _).alloc _).alloc _
  have b1 : Blk W3 (w.heap.size + 1) 31 #[.nilIface] := by rw [← hW3]; exact (Blk.new_at hN0.symm).alloc _
  have b2 : Blk W3 (w.heap.size + 1 + 1) 3 #[.int .i64 (k : Int)] := by rw [← hW3]; exact Blk.new_at hN1.symm
  rw [hW3]
  clear hW3 hN0 hN1
  refine (HH.out W3 hB3).mono ?_
  rintro e w1 ⟨he, ⟨j, h1⟩, h2⟩
  unfold pnk at he
  subst he
  have d0 := Blk.kp b0 h2 (by omega) (by have := HC.out; omega)
  have d1 := Blk.kp b1 h2 (by omega) (by have := HC.out; omega)
  have d2 := Blk.kp b2 h2 (by omega) (by have := HC.out; omega)
  have x0 := d0.cell 0
  have x1 := d1.cell 0
  have x2 := d2.cell 0
  have xg := h1.blk.cell 1
  simp only [List.getElem?_toArray, List.getElem?_cons_zero, List.getElem?_cons_succ, List.setIfInBounds_toArray, List.set_cons_zero] at x0 x1 x2 xg
  have z1 := d1.frozen 0
  have zg := h1.blk.frozen 1
  have H1 := Lib.hid h1
  have H2 := Lib.hid h2
  have D1 := Lib.hid d1
  clear h1 h2 b0 b1 b2 d0 d1 d2
  go_wp2
  refine leaves_cons (f := 39) (args := #[.pointer (some ⟨w.heap.size + 1 + 1, 0, none⟩), .pointer (some ⟨w.heap.size, 0, none⟩), .pointer (some ⟨w.heap.size + 1, 0, none⟩)]) (by simp) (by simp [go_sem]) ?_
  refine (catch_panicking _ _ g (w.heap.size + 1) k j cc [] _ x2 x0 xg zg x1 z1 (by omega)).mono ?_
  rintro e u' w'' ⟨rfl, rfl, rfl⟩
  have e1 := ((D1.out.far (p := ⟨g, 1, none⟩) (by show w.heap.size + 1 ≠ g; omega) (.int .i64 (k : Int))).set_ 0 (errno cc)).cell 0
  simp only [List.getElem?_toArray, List.getElem?_cons_zero, List.getElem?_cons_succ, List.setIfInBounds_toArray, List.set_cons_zero] at e1
  simp [Leaves, settle, results, Tryd.results24, go_sem, e1]
  exact ⟨(H1.out.to k HR.out.le).far HR.out (by omega), ((((Kp.ofBelow g c hB3).trans H2.out).setG).setNew (by omega))⟩
end Go.Proofs.YtpdpdojaaaipcaaDoor
