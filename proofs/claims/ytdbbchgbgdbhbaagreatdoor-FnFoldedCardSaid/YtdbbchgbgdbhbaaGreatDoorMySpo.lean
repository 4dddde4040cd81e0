/- A conversion between two row types of bytes; a world that has grown. No condition. -/
import Derived.Test.YtdbbchgbgdbhbaaGreatDoorPSpox0
import Derived.Lib.SliceRun
namespace Go.Proofs.YtdbbchgbgdbhbaaGreatDoor.PSpo
open Go Go.RowKit Go.Proofs.YtdbbchgbgdbhbaaGreatDoorW.PrintWords Go.Proofs.YtdbbchgbgdbhbaaGreatDoorW.PrintLast Go.Proofs.YtdbbchgbgdbhbaaGreatDoorW.PrintMore
set_option linter.unusedVariables false
set_option linter.unusedSimpArgs false
theorem below_grown {w0 W W2 : World} {row : Option Nat} (h : Below w0.heap.size w0 W) (hg : W.grownBy W2 row) (hr : ∀ k, row = some k → w0.heap.size ≤ k) : Below w0.heap.size w0 W2 := h.grown hg h.size hr
theorem cell_of_blk {w : World} {g t : Nat} {v : Value} (h : w.heap[g]? = some (.cells #[v] t (0, 0))) : w.cell? ⟨g, 0, none⟩ = some v := by simp [World.cell?, h]
/-! A constant text as a row of bytes: the row gets a mark; its cells stay. -/
theorem freeze_cell (w : World) (p : Addr) (n : Nat) (a : Addr) : (w.freeze p n).cell? a = w.cell? a := by
  unfold World.freeze
  split
  · rfl
  · simp only [World.cell?, Array.getElem?_modify]
    by_cases h : p.block = a.block
    · rw [if_pos h]
      cases hh : w.heap[a.block]? with
      | none => rfl
      | some o =>
        cases o <;> rfl
    · rw [if_neg h]
theorem freeze_block (w : World) (p : Addr) (n k : Nat) (hk : k ≠ p.block) : (w.freeze p n).heap[k]? = w.heap[k]? := by
  unfold World.freeze
  split
  · rfl
  · simp only [Array.getElem?_modify]
    rw [if_neg (fun e => hk e.symm)]
theorem freeze_grown (w : World) (p : Addr) (n : Nat) : w.grownBy (w.freeze p n) (some p.block) := by
  refine ⟨?_, ?_, ?_, ?_, fun k _ hne => freeze_block w p n k (fun e => hne (by rw [e]))⟩ <;> (unfold World.freeze; split <;> simp)
theorem C_cells {w w1 : World} {A : Option Addr} {n : Nat} {xs : List Int} (h : Kd.C (Kd.int .u8) w A n xs) (hc : ∀ a, w1.cell? a = w.cell? a) : Kd.C (Kd.int .u8) w1 A n xs :=
  ⟨h.1, h.2.1, fun h0 => by
    obtain ⟨ad, e, hh⟩ := h.2.2 h0
    exact ⟨ad, e, fun j p hp => by
      obtain ⟨c, hl, hk, hcell⟩ := hh j p hp
      exact ⟨c, hl, hk, fun i u hu => (hc _).trans (hcell i u hu)⟩⟩⟩
theorem conv_step {ops : Array Oper} {Q : Exit → Act → World → Prop} {Kc : Act → World → Prop} {o : Oper} {a : Act} {W w0 : World} {base : Nat} {ok : Nat → Prop} {A : Option Addr} {c : Nat} {xs : List Int}
    (hw : Region.wanted o (yielded ops a.tmps) = true) (hrun : (execOp a.eval o).run Tryz.prog W = (Sem.run Tryz.prog (convert 22 22 (.slice A xs.length c)) W).andThen fun v w' => .ok (.value v) w')
    (hR : Kd.R (Kd.int .u8) 5 W base ok (.slice A xs.length c) xs) (hn : 0 < xs.length) (HB : Below base w0 W) (hbase : base ≤ W.heap.size)
    (h : ∀ w1, Kd.C (Kd.int .u8) w1 A xs.length xs → xs.length ≤ c → Below base w0 w1 → W.grownBy w1 (Value.slice A xs.length c).ownBlock → Kc (a.put o.dst (.slice A xs.length c)) w1) : if Region.wanted o (yielded ops a.tmps) = true then Oper.wp Tryz.prog o a W Kc Q else Kc (a.put o.dst undef) W := by
  obtain ⟨_, hle, hC⟩ := Kd.R_reads' hR
  obtain ⟨h0, inner, ho, hr⟩ := hR
  rcases ho.2 with ⟨_, hz⟩ | ⟨g, cap, cur, hv, hg, hh, hcap, hmax, hsz, htk⟩
  · omega
  · injection hv with hA _ hc
    subst hA hc
    have hsh : W.shape? g = some (5, cur.size) := by unfold World.shape?; rw [hh]
    have hcv : Sem.run Tryz.prog (convert 22 22 (.slice (some ⟨g, 0, none⟩) xs.length c)) W = .ok (.slice (some ⟨g, 0, none⟩) xs.length c) (W.freeze ⟨g, cur.size, none⟩ 1) := by
      simp [convert, run_underlying Tryz.underlying22, run_underlying Tryz.underlying5, markStringish, hsh]
    rw [hcv] at hrun
    have hgr := freeze_grown W ⟨g, cur.size, none⟩ 1
    exact event_step hw hrun (h _ (C_cells hC (freeze_cell W _ 1)) hle (HB.grown hgr hbase (fun k hk => by injection hk with hk; rw [← hk]; exact hg)) hgr)
end Go.Proofs.YtdbbchgbgdbhbaaGreatDoor.PSpo
