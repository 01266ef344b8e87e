/- Lemmas: an abstract machine over the loaded program, proved sound against the model once; what the program's functions compute. -/
import Derived.Test.YteiahfpnjjdkoaaGreatK0
import Derived.KernelRfl
set_option linter.all false
/- The functions of the program, as the abstract machine takes them: printed by gen2.py. -/
namespace Go.AM
set_option linter.unusedVariables false
abbrev I.o (d : Nat) (e : O) : I := ⟨some d, none, e, [], 0⟩
abbrev I.s (e : O) : I := ⟨none, none, e, [], 0⟩
abbrev I.c (n : Nat) (b : Bool) (d : Nat) (e : O) : I := ⟨some d, some (n, b), e, [], 0⟩
abbrev I.z (d : Nat) (e : O) (z : Nat) : I := ⟨some d, none, e, [], z⟩
abbrev I.u (d : Nat) (e : O) (un : List Nat) (z : Nat) : I := ⟨some d, none, e, un, z⟩
def t_kfifo_Queue : TypeId := 286
def t_multi_Multi : TypeId := 282
def t_net_Net : TypeId := 212
def t_pile_Item : TypeId := 46
def t_pile_items_u : TypeId := 241
def t_tally_Tally : TypeId := 290

def n_c_law16_ScanPlays : FuncId := 5
def n_c_law12_Kind : FuncId := 11
def n_c_law16_awake : FuncId := 16
def n_c_law16_Make : FuncId := 17
def n_c_law16_Both_Does : FuncId := 18
def n_engine_Engine_Memory : FuncId := 19
def n_c_law06_Run_Same : FuncId := 20
def n_scan_New : FuncId := 21
def n_scan_Runner_Open : FuncId := 23
def n_scan_Runner_Start : FuncId := 24
def n_scan_Runner_Scanning : FuncId := 25
def n_engine_Engine_Busy : FuncId := 26
def n_scan_Runner_Pick : FuncId := 27
def n_scan_Runner_Take : FuncId := 28
def n_scan_Runner_Quiet : FuncId := 29
def n_engine_Engine_Closed : FuncId := 30
def n_engine_New : FuncId := 32
def n_history_Of : FuncId := 33
def n_scan_Of : FuncId := 38
def n_history_Recorder_Begin : FuncId := 39
def n_c_law06_Own : FuncId := 40
def n_scan_Runner_Ticks : FuncId := 41
def n_cell_Memory_Clock : FuncId := 44
def n_op_Into : FuncId := 45
def n_op_Legal : FuncId := 46
def n_pile_Item_Cmp : FuncId := 53
def n_c_ref13_New : FuncId := 54
def n_c_ref13_Begin : FuncId := 55
def n_c_law06_Told : FuncId := 56
def n_c_law16_Both_pick : FuncId := 57
def n_scan_Runner_Close : FuncId := 58
def n_c_ref16_Gate : FuncId := 59
def n_c_ref16_Start : FuncId := 60
def n_c_law16_IsShot : FuncId := 61
def n_cell_Memory_Len : FuncId := 62
def n_c_ref05_Len : FuncId := 63
def n_c_ref05_Read : FuncId := 64
def n_cell_Memory_Read : FuncId := 65
def n_c_law05_Is : FuncId := 66
def n_engine_Engine_Open : FuncId := 68
def n_history_Recorder_Pick : FuncId := 69
def n_scan_Runner_step : FuncId := 70
def n_engine_With : FuncId := 72
def n_cell_New : FuncId := 73
def n_pile_New : FuncId := 78
def n_pile_Pile_All : FuncId := 79
def n_engine_Engine_Begin : FuncId := 80
def n_engine_Engine_Steps : FuncId := 81
def n_c_ref06_Of : FuncId := 82
def n_c_ref06_Into : FuncId := 83
def n_c_law04_Own : FuncId := 84
def n_net_New : FuncId := 96
def n_net_Net_Out : FuncId := 97
def n_real_Cmp : FuncId := 98
def n_c_ref06_Check : FuncId := 99
def n_c_ref04_Make : FuncId := 100
def n_c_ref16_Pick : FuncId := 101
def n_c_law06_IsAnswer : FuncId := 102
def n_engine_Engine_Close : FuncId := 103
def n_cell_Value_Clone : FuncId := 104
def n_c_law04_Are : FuncId := 105
def n_engine_Engine_Pick : FuncId := 106
def n_scan_Runner_cells : FuncId := 107
def n_scan_Runner_done : FuncId := 108
def n_scan_Runner_failed : FuncId := 109
def n_engine_machine : FuncId := 110
def n_op_Op_Check : FuncId := 112
def n_pile_Item_Canon : FuncId := 114
def n_container_heap_Init : FuncId := 118
def n_pile_Pile_Take : FuncId := 119
def n_c_law03_F : FuncId := 120
def n_cell_Memory_Write : FuncId := 122
def n_wire_Make : FuncId := 135
def n_real_Key : FuncId := 136
def n_c_ref03_Bits : FuncId := 137
def n_c_ref13_Busy : FuncId := 138
def n_c_ref13_Pick : FuncId := 139
def n_c_ref16_step : FuncId := 140
def n_c_law04_Is : FuncId := 141
def n_engine_Engine_Kind : FuncId := 142
def n_engine_Engine_Param : FuncId := 143
def n_scan_scanner_again : FuncId := 144
def n_multi_New : FuncId := 145
def n_kfifo_New : FuncId := 146
def n_tally_New : FuncId := 147
def n_op_Of : FuncId := 148
def n_real_Canon : FuncId := 149
def n_container_heap_down : FuncId := 153
def n_container_heap_Pop : FuncId := 154
def n_wire_Plan_count : FuncId := 176
def n_c_ref12_Step : FuncId := 178
def n_c_ref16_cell : FuncId := 179
def n_c_ref16_finish : FuncId := 180
def n_kfifo_Queue_Slot : FuncId := 196
def n_wire_Plan_merge : FuncId := 208
def n_c_ref08_Step : FuncId := 209
def n_c_ref09_Step : FuncId := 210
def n_c_ref07_Step : FuncId := 211
def n_c_ref11_Step : FuncId := 212
def n_c_ref10_Count : FuncId := 213
def n_wire_every : FuncId := 231
def n_c_ref08_insert : FuncId := 232
def n_c_ref04_Cmp : FuncId := 233
def n_c_ref05_Write : FuncId := 234
def n_c_ref09_enq : FuncId := 235
def n_c_ref09_look : FuncId := 236
def n_c_ref09_slot : FuncId := 237
def n_c_ref09_again : FuncId := 238
def n_c_ref11_more : FuncId := 239
def n_c_ref10_Merge : FuncId := 240
def n_c_ref04_With : FuncId := 244
def n_c_ref03_Cmp : FuncId := 245
def n_c_ref09_Slot : FuncId := 246
def n_c_ref10_pick : FuncId := 247
def n_c_ref03_Key : FuncId := 249
def n_net_Net_Step : FuncId := 267
def n_net_Net_gate : FuncId := 268
def n_net_bump : FuncId := 269
def n_net_Net_place : FuncId := 270
def n_pile_items_Len : FuncId := 271
def n_pile_items_Less : FuncId := 272
def n_pile_items_Swap : FuncId := 273
def n_pile_items_Pop : FuncId := 274
def n_multi_Multi_Step : FuncId := 275
def n_multi_Multi_insert : FuncId := 276
def n_multi_Multi_delete : FuncId := 277
def n_pile_Pile_Put : FuncId := 278
def n_multi_better : FuncId := 279
def n_container_heap_Push : FuncId := 280
def n_container_heap_up : FuncId := 281
def n_kfifo_Queue_Fits : FuncId := 282
def n_kfifo_Queue_Step : FuncId := 283
def n_kfifo_Queue_enq : FuncId := 284
def n_kfifo_Queue_deq : FuncId := 285
def n_kfifo_Queue_begin : FuncId := 286
def n_kfifo_Queue_slot : FuncId := 287
def n_kfifo_Queue_look : FuncId := 288
def n_tally_Tally_Step : FuncId := 289
def n_tally_Tally_sum : FuncId := 290
def n_pile_items_Push : FuncId := 292
def n_pile_items_Len_q : FuncId := 1000271
def n_pile_items_Less_q : FuncId := 1000272
def n_pile_items_Swap_q : FuncId := 1000273
def F_c_law16_ScanPlays : F := ⟨3,[.inl 6],
 (.seq (.reg [.zz 2] [.o 6 (.mv (.c (.b false)))] false [0,1,2] [])
 (.seq (.seq (.reg [] [.o 11 (.call n_c_law16_awake []),
 .o 12 (.un .not (.k 11))] false [0,1,2,12] [])
 (.cond 12 (.seq (.reg [] [.o 6 (.mv (.c (.b false)))] false [6] [])
 .ret)
 .skip))
 (.seq (.reg [] [.o 14 (.mv (.k 0)),
 .o 15 (.mv (.k 1)),
 .o 16 (.call n_c_law12_Kind [.k 14,.k 15]),
 .o 13 (.mv (.k 16)),
 .o 17 (.ex false 0 13),
 .o 18 (.ex false 1 13),
 .o 0 (.mv (.k 17)),
 .o 1 (.mv (.k 18))] false [0,1,2] [])
 (.seq (.reg [] [.o 20 (.mv (.k 0)),
 .o 21 (.mv (.k 1)),
 .z 22 (.call n_c_law16_Make [.k 20,.k 21]) 1,
 .o 19 (.mv (.k 22)),
 .o 23 (.ex true 0 19),
 .o 24 (.ex false 1 19),
 .o 7 (.ag ([.nilp,.i .i64 0,.i .i64 0,.l .o 3 [],.l .x 17 [],.b false,.b false,.b false,.b false,.b false,.i .i64 0,.i .i64 0,.i .i64 0,.i .i64 0,.l .o 4 [],.b false,.l .o 4 [],.i .i64 0,.b false])),
 .s (.st 19 (.t 7) (.k 23)),
 .o 8 (.mv (.k 24))] false [2,7,8] [])
 (.seq (.seq (.reg [] [.o 9 (.mv (.c (.i .i64 0)))] false [2,7,8,9] [])
 (.blk 0 (.loop (.seq (.seq (.reg [] [.o 25 (.mv (.t 8)),
 .o 26 (.mv (.k 25)),
 .c 26 true 27 (.mv (.t 9)),
 .c 26 true 28 (.mv (.t 2)),
 .c 26 true 29 (.len false (.k 28)),
 .c 26 true 30 (.bin .lss (.k 27) (.k 29)),
 .o 31 (.pick (.k 26) (.k 30) (.c (.b false))),
 .o 32 (.mv (.k 31)),
 .c 32 true 33 (.mv (.t 9)),
 .c 32 true 34 (.bin .lss (.k 33) (.c (.i .i64 150))),
 .o 35 (.pick (.k 32) (.k 34) (.c (.b false)))] false [2,7,8,9,35] [])
 (.cond 35 .skip
 (.exit 0)))
 (.seq (.blk 1 (.reg [] [.o 38 (.mv (.t 2)),
 .o 39 (.mv (.t 9)),
 .o 40 (.ia 8 none (.k 38) (.k 39)),
 .o 41 (.ld true 8 .cp (.k 40)),
 .o 42 (.call n_c_law16_Both_Does [.t 7,.k 41]),
 .o 8 (.mv (.k 42))] false [2,7,8,9] []))
 (.reg [] [.o 36 (.mv (.k 9)),
 .o 37 (.bin .add (.k 36) (.c (.i .i64 1))),
 .o 9 (.mv (.k 37))] false [2,7,8,9] []))))))
 (.seq (.seq (.reg [] [.o 43 (.mv (.k 8)),
 .o 44 (.un .not (.k 43))] false [7,44] [])
 (.cond 44 (.seq (.reg [] [.o 6 (.mv (.c (.b false)))] false [6] [])
 .ret)
 .skip))
 (.seq (.reg [] [.o 45 (.fa 0 (.t 7)),
 .o 46 (.ld false 1 .cp (.k 45)),
 .o 47 (.nc (.k 46)),
 .o 48 (.fa 0 (.k 47)),
 .o 49 (.ld false 1 .cp (.k 48)),
 .o 50 (.nc (.k 49)),
 .o 51 (.fa 0 (.k 50)),
 .o 52 (.ld false 1 .cp (.k 51)),
 .o 53 (.call n_engine_Engine_Memory [.k 52]),
 .u 54 (.fa 1 (.t 7)) [0,1,2,3,4,5,6,7,8] 0,
 .u 55 (.fa 0 (.k 54)) [0,1,2,3,4,5,6,7,8] 0,
 .u 56 (.fa 2 (.k 55)) [0,1,2,3,4,5,6,7,8] 0,
 .u 57 (.ld true 1 .cp (.k 56)) [0,1,2,3,4,5,6,7,8] 0,
 .o 58 (.bd ([.nilp,.l .o 3 [],.l .o 12 [],.i .i64 0]) [(0,1,.k 53),(1,1,.k 57)]),
 .u 10 (.al ([.nilp,.l .o 3 [],.l .o 12 [],.i .i64 0])) [0,1,2,3,4,5,6,7,8,9,10,11,12,13] 0,
 .s (.st 4 (.t 10) (.k 58))] true [10] [10])
 (.seq (.reg [] [.z 59 (.ld true 4 .tk (.k 10)) 2,
 .o 60 (.call n_c_law06_Run_Same [.k 59]),
 .o 61 (.bin .eql (.k 60) (.c (.i .i64 0))),
 .o 6 (.mv (.k 61))] false [6] [])
 .ret))))))))⟩

def F_c_law12_Kind : F := ⟨2,[.inl 4,.inl 5],
 (.seq (.reg [] [.o 4 (.mv (.c (.i .i64 0))),
 .o 5 (.mv (.c (.i .i64 0)))] false [0,1] [])
 (.seq (.reg [] [.o 6 (.mv (.k 0)),
 .o 7 (.bin .and (.k 6) (.c (.i .i64 255))),
 .o 8 (.bin .rem (.k 7) (.c (.i .i64 4))),
 .o 9 (.bin .add (.c (.i .i64 1)) (.k 8)),
 .o 0 (.mv (.k 9))] false [0,1] [])
 (.seq (.seq (.reg [] [.o 10 (.mv (.t 0)),
 .o 11 (.bin .eql (.k 10) (.c (.i .i64 4)))] false [0,1,11] [])
 (.cond 11 (.seq (.reg [] [.o 12 (.mv (.k 0)),
 .u 13 (.mv (.k 1)) [0] 0,
 .u 14 (.bin .and (.k 13) (.c (.i .i64 255))) [0] 0,
 .u 15 (.bin .rem (.k 14) (.c (.i .i64 5))) [0] 0,
 .u 16 (.bin .shl (.c (.i .i64 1)) (.k 15)) [0] 0,
 .u 4 (.mv (.k 12)) [1,2,3,4] 0,
 .o 5 (.mv (.k 16))] true [4,5] [])
 .ret)
 .skip))
 (.seq (.reg [] [.o 17 (.mv (.k 0)),
 .o 18 (.mv (.k 1)),
 .o 19 (.bin .and (.k 18) (.c (.i .i64 255))),
 .o 20 (.bin .rem (.k 19) (.c (.i .i64 16))),
 .o 21 (.bin .add (.c (.i .i64 1)) (.k 20)),
 .o 4 (.mv (.k 17)),
 .o 5 (.mv (.k 21))] false [4,5] [])
 .ret))))⟩

def F_c_law16_awake : F := ⟨0,[.inl 0],
 (.seq (.reg [] [.o 0 (.mv (.c (.b false)))] false [] [])
 (.seq (.reg [] [.o 6 (.call n_scan_New [.c (.i .i64 3),.c (.i .i64 2)]),
 .o 5 (.mv (.k 6)),
 .o 7 (.ex false 0 5),
 .o 8 (.ex false 1 5),
 .o 1 (.mv (.k 7)),
 .o 2 (.mv (.k 8))] false [1,2] [])
 (.seq (.seq (.reg [] [.o 9 (.mv (.k 2)),
 .o 10 (.bin .neq (.k 9) (.c (.i .i64 0))),
 .o 11 (.mv (.k 10)),
 .c 11 false 12 (.mv (.t 1)),
 .c 11 false 13 (.eq false .pt (.k 12) (.c (.nilp))),
 .o 14 (.pick (.k 11) (.c (.b true)) (.k 13)),
 .o 15 (.mv (.k 14)),
 .c 15 false 16 (.mv (.t 1)),
 .c 15 false 17 (.call n_scan_Runner_Start [.k 16,.c (.i .i64 9)]),
 .c 15 false 18 (.bin .neq (.k 17) (.c (.i .i64 4))),
 .o 19 (.pick (.k 15) (.c (.b true)) (.k 18)),
 .o 20 (.mv (.k 19)),
 .c 20 false 21 (.mv (.t 1)),
 .c 20 false 22 (.call n_scan_Runner_Start [.k 21,.c (.i .i64 1)]),
 .c 20 false 23 (.bin .neq (.k 22) (.c (.i .i64 0))),
 .o 24 (.pick (.k 20) (.c (.b true)) (.k 23)),
 .o 25 (.mv (.k 24)),
 .c 25 false 26 (.mv (.t 1)),
 .c 25 false 27 (.call n_scan_Runner_Start [.k 26,.c (.i .i64 1)]),
 .c 25 false 28 (.bin .neq (.k 27) (.c (.i .i64 11))),
 .o 29 (.pick (.k 25) (.c (.b true)) (.k 28))] false [1,29] [])
 (.cond 29 (.seq (.reg [] [.o 0 (.mv (.c (.b false)))] false [0] [])
 .ret)
 .skip))
 (.seq (.seq (.reg [] [.o 30 (.mv (.c (.i .i64 0)))] false [1,30] [])
 (.blk 0 (.loop (.seq (.reg [] [.o 31 (.bin .lss (.t 30) (.c (.i .i64 4)))] false [1,30,31] [])
 (.seq (.cond 31 .skip
 (.exit 0))
 (.seq (.blk 1 (.reg [] [.o 32 (.mv (.t 1)),
 .o 33 (.call n_scan_Runner_Pick [.k 32,.c (.i .i64 0)])] false [1,30] []))
 (.reg [] [.o 34 (.bin .add (.k 30) (.c (.i .i64 1))),
 .o 30 (.mv (.k 34))] false [1,30] [])))))))
 (.seq (.reg [] [.o 36 (.mv (.t 1)),
 .o 37 (.call n_scan_Runner_Take [.k 36]),
 .o 35 (.mv (.k 37)),
 .o 38 (.ex false 0 35),
 .o 39 (.ex false 1 35),
 .o 3 (.al ([.i .i64 0,.i .i64 0,.l .o 4 [],.i .i64 0,.b false])),
 .s (.st 5 (.t 3) (.k 38)),
 .o 4 (.mv (.k 39))] false [1,3,4] [3])
 (.seq (.reg [] [.o 40 (.mv (.k 4)),
 .o 41 (.mv (.k 40)),
 .c 41 true 42 (.fa 0 (.t 3)),
 .c 41 true 43 (.ld false 1 .cp (.k 42)),
 .c 41 true 44 (.bin .eql (.k 43) (.c (.i .i64 3))),
 .o 45 (.pick (.k 41) (.k 44) (.c (.b false))),
 .o 46 (.mv (.k 45)),
 .c 46 true 47 (.fa 3 (.t 3)),
 .c 46 true 48 (.ld false 1 .cp (.k 47)),
 .c 46 true 49 (.bin .eql (.k 48) (.c (.i .i64 1))),
 .o 50 (.pick (.k 46) (.k 49) (.c (.b false))),
 .o 51 (.mv (.k 50)),
 .c 51 true 52 (.fa 2 (.k 3)),
 .c 51 true 53 (.ld false 1 .tk (.k 52)),
 .c 51 true 54 (.len false (.k 53)),
 .c 51 true 55 (.bin .eql (.k 54) (.c (.i .i64 2))),
 .o 56 (.pick (.k 51) (.k 55) (.c (.b false))),
 .o 57 (.mv (.k 56)),
 .c 57 true 58 (.mv (.k 1)),
 .c 57 true 59 (.call n_scan_Runner_Ticks [.k 58]),
 .c 57 true 60 (.bin .eql (.k 59) (.c (.i .i64 4))),
 .o 61 (.pick (.k 57) (.k 60) (.c (.b false))),
 .o 0 (.mv (.k 61))] false [0] [])
 .ret))))))⟩

def F_c_law16_Make : F := ⟨2,[.inr (4,true,19),.inl 5],
 (.seq (.reg [] [.o 4 (.al ([.nilp,.i .i64 0,.i .i64 0,.l .o 3 [],.l .x 17 [],.b false,.b false,.b false,.b false,.b false,.i .i64 0,.i .i64 0,.i .i64 0,.i .i64 0,.l .o 4 [],.b false,.l .o 4 [],.i .i64 0,.b false])),
 .o 5 (.mv (.c (.b false)))] false [0,1,4] [4])
 (.seq (.reg [] [.o 9 (.mv (.t 0)),
 .o 10 (.mv (.t 1)),
 .o 11 (.call n_scan_New [.k 9,.k 10]),
 .o 8 (.mv (.k 11)),
 .o 12 (.ex false 0 8),
 .o 13 (.ex false 1 8),
 .o 6 (.mv (.k 12)),
 .o 7 (.mv (.k 13))] false [0,1,4,6,7] [4])
 (.seq (.reg [] [.o 14 (.mv (.t 6)),
 .o 15 (.mv (.k 0)),
 .o 16 (.mv (.k 1)),
 .o 17 (.call n_c_ref13_New [.k 15,.k 16]),
 .o 18 (.bd ([.i .i64 0,.i .i64 0,.l .o 3 [],.l .x 17 [],.b false,.b false,.b false,.b false,.b false,.i .i64 0,.i .i64 0,.i .i64 0,.i .i64 0,.l .o 4 [],.b false,.l .o 4 [],.i .i64 0,.b false]) [(0,5,.k 17)]),
 .o 19 (.bd ([.nilp,.i .i64 0,.i .i64 0,.l .o 3 [],.l .x 17 [],.b false,.b false,.b false,.b false,.b false,.i .i64 0,.i .i64 0,.i .i64 0,.i .i64 0,.l .o 4 [],.b false,.l .o 4 [],.i .i64 0,.b false]) [(0,1,.k 14),(1,18,.k 18)]),
 .o 20 (.mv (.k 7)),
 .o 21 (.bin .eql (.k 20) (.c (.i .i64 0))),
 .o 22 (.mv (.k 21)),
 .c 22 true 23 (.mv (.k 6)),
 .c 22 true 24 (.eq true .pt (.k 23) (.c (.nilp))),
 .o 25 (.pick (.k 22) (.k 24) (.c (.b false))),
 .s (.st 19 (.t 4) (.k 19)),
 .o 5 (.mv (.k 25))] false [4,5] [4])
 .ret)))⟩

def F_c_law16_Both_Does : F := ⟨2,[.inl 4],
 (.seq (.reg [] [.o 3 (.bx (.k 1)),
 .o 4 (.mv (.c (.b false)))] false [0,3] [3])
 (.seq (.reg [] [.o 5 (.mv (.c (.b true)))] false [0,3,5] [3])
 (.seq (.seq (.reg [] [.o 14 (.fa 0 (.t 3)),
 .o 15 (.ld false 1 .cp (.k 14)),
 .o 16 (.bin .and (.k 15) (.c (.i .i64 255))),
 .o 17 (.bin .rem (.k 16) (.c (.i .i64 21))),
 .o 6 (.mv (.k 17))] false [0,3,5,6] [3])
 (.blk 0 (.seq (.reg [] [.o 83 (.mv (.t 6)),
 .o 84 (.bin .lss (.k 83) (.c (.i .i64 3))),
 .o 82 (.mv (.k 84))] false [0,3,5,6,82] [3])
 (.cond 82 (.seq (.reg [] [.o 85 (.mv (.t 0)),
 .o 86 (.nc (.k 85)),
 .o 87 (.fa 0 (.k 86)),
 .o 88 (.ld false 1 .cp (.k 87)),
 .o 89 (.nc (.k 88)),
 .o 90 (.fa 0 (.k 89)),
 .o 91 (.ld false 1 .cp (.k 90)),
 .u 92 (.fa 1 (.t 3)) [0,1,2,3,4,5,6] 0,
 .u 93 (.ld false 1 .cp (.k 92)) [0,1,2,3,4,5,6] 0,
 .u 94 (.mv (.t 0)) [0,1,2,3,4,5,6,7,8] 0,
 .u 95 (.nc (.k 94)) [0,1,2,3,4,5,6,7,8] 0,
 .u 96 (.fa 1 (.k 95)) [0,1,2,3,4,5,6,7,8] 0,
 .u 97 (.fa 0 (.k 96)) [0,1,2,3,4,5,6,7,8] 0,
 .u 98 (.fa 0 (.k 97)) [0,1,2,3,4,5,6,7,8] 0,
 .u 99 (.ld false 1 .cp (.k 98)) [0,1,2,3,4,5,6,7,8] 0,
 .u 100 (.fa 3 (.t 3)) [0,1,2,3,4,5,6,7,8,9,10,11,12,13,14] 0,
 .u 101 (.ld true 5 .cp (.k 100)) [0,1,2,3,4,5,6,7,8,9,10,11,12,13,14] 0,
 .u 102 (.call n_c_law06_Own [.k 99,.k 101]) [0,1,2,3,4,5,6,7,8] 0,
 .o 103 (.call n_history_Recorder_Begin [.k 91,.k 93,.k 102]),
 .o 7 (.mv (.k 103))] true [0,3,7] [3])
 (.seq (.reg [] [.o 105 (.mv (.t 0)),
 .o 106 (.nc (.k 105)),
 .o 107 (.fa 1 (.k 106)),
 .o 108 (.fa 0 (.k 107)),
 .o 109 (.ld true 5 .cp (.k 108)),
 .u 110 (.fa 1 (.t 3)) [0,1,2,3,4] 0,
 .u 111 (.ld false 1 .cp (.k 110)) [0,1,2,3,4] 0,
 .u 112 (.mv (.t 0)) [0,1,2,3,4,5,6] 0,
 .u 113 (.nc (.k 112)) [0,1,2,3,4,5,6] 0,
 .u 114 (.fa 1 (.k 113)) [0,1,2,3,4,5,6] 0,
 .u 115 (.fa 0 (.k 114)) [0,1,2,3,4,5,6] 0,
 .u 116 (.fa 0 (.k 115)) [0,1,2,3,4,5,6] 0,
 .u 117 (.ld false 1 .cp (.k 116)) [0,1,2,3,4,5,6] 0,
 .u 118 (.fa 3 (.t 3)) [0,1,2,3,4,5,6,7,8,9,10,11,12] 0,
 .u 119 (.ld true 5 .cp (.k 118)) [0,1,2,3,4,5,6,7,8,9,10,11,12] 0,
 .u 120 (.call n_c_law06_Told [.k 117,.k 119]) [0,1,2,3,4,5,6] 2,
 .z 121 (.call n_c_ref13_Begin [.k 109,.k 111,.k 120]) 1,
 .o 104 (.mv (.k 121)),
 .o 122 (.ex true 0 104),
 .u 123 (.ex false 1 104) [18] 0,
 .u 8 (.al ([.i .i64 0,.i .i64 0,.l .o 3 [],.l .x 17 [],.b false])) [0,1,2,3,4,5,6,7,8,9,10,11,12,13,14,15,16,17,18,19] 0,
 ⟨none,none,.st 5 (.t 8) (.k 122),[19],0⟩,
 .o 9 (.mv (.k 123))] true [0,7,8,9] [8])
 (.seq (.reg [] [.o 124 (.mv (.t 0)),
 .o 125 (.ld true 5 .tk (.k 8)),
 .o 126 (.nc (.k 124)),
 .o 127 (.fa 1 (.k 126)),
 .o 128 (.fa 0 (.k 127)),
 .s (.st 5 (.k 128) (.k 125))] false [0,7,9] [])
 (.reg [] [.o 129 (.mv (.k 7)),
 .o 130 (.mv (.k 9)),
 .o 131 (.bin .eql (.k 129) (.k 130)),
 .o 5 (.mv (.k 131))] false [0,5] []))))
 (.seq (.reg [] [.o 133 (.mv (.t 6)),
 .o 134 (.bin .lss (.k 133) (.c (.i .i64 17))),
 .o 132 (.mv (.k 134))] false [0,3,5,6,132] [3])
 (.cond 132 (.reg [] [.o 135 (.mv (.t 0)),
 .o 136 (.fa 2 (.k 3)),
 .o 137 (.ld false 1 .cp (.k 136)),
 .o 138 (.call n_c_law16_Both_pick [.k 135,.k 137]),
 .o 5 (.mv (.k 138))] false [0,5] [])
 (.seq (.reg [] [.o 140 (.mv (.t 6)),
 .o 141 (.bin .eql (.k 140) (.c (.i .i64 17))),
 .o 139 (.mv (.k 141))] false [0,3,5,6,139] [3])
 (.cond 139 (.seq (.reg [] [.o 142 (.mv (.t 0)),
 .o 143 (.nc (.k 142)),
 .o 144 (.fa 0 (.k 143)),
 .o 145 (.ld false 1 .cp (.k 144)),
 .o 146 (.call n_scan_Runner_Close [.k 145])] false [0,5] [])
 (.reg [] [.o 147 (.mv (.t 0)),
 .o 148 (.mv (.t 0)),
 .o 149 (.nc (.k 148)),
 .o 150 (.fa 1 (.k 149)),
 .o 151 (.ld true 18 .cp (.k 150)),
 .o 152 (.call n_c_ref16_Gate [.k 151,.c (.b true)]),
 .o 153 (.nc (.k 147)),
 .o 154 (.fa 1 (.k 153)),
 .s (.st 18 (.k 154) (.k 152))] false [0,5] []))
 (.seq (.reg [] [.o 156 (.mv (.t 6)),
 .o 157 (.bin .eql (.k 156) (.c (.i .i64 18))),
 .o 155 (.mv (.k 157))] false [0,3,5,6,155] [3])
 (.cond 155 (.seq (.reg [] [.o 158 (.mv (.t 0)),
 .o 159 (.nc (.k 158)),
 .o 160 (.fa 0 (.k 159)),
 .o 161 (.ld false 1 .cp (.k 160)),
 .o 162 (.call n_scan_Runner_Open [.k 161])] false [0,5] [])
 (.reg [] [.o 163 (.mv (.t 0)),
 .o 164 (.mv (.t 0)),
 .o 165 (.nc (.k 164)),
 .o 166 (.fa 1 (.k 165)),
 .o 167 (.ld true 18 .cp (.k 166)),
 .o 168 (.call n_c_ref16_Gate [.k 167,.c (.b false)]),
 .o 169 (.nc (.k 163)),
 .o 170 (.fa 1 (.k 169)),
 .s (.st 18 (.k 170) (.k 168))] false [0,5] []))
 (.seq (.reg [] [.o 172 (.mv (.k 6)),
 .o 173 (.bin .eql (.k 172) (.c (.i .i64 19))),
 .o 171 (.mv (.k 173))] false [0,3,171] [3])
 (.cond 171 (.seq (.reg [] [.o 175 (.mv (.t 0)),
 .o 176 (.nc (.k 175)),
 .o 177 (.fa 1 (.k 176)),
 .o 178 (.ld true 18 .cp (.k 177)),
 .u 179 (.fa 2 (.t 3)) [0,1,2,3] 0,
 .u 180 (.ld false 1 .cp (.k 179)) [0,1,2,3] 0,
 .z 181 (.call n_c_ref16_Start [.k 178,.k 180]) 1,
 .o 174 (.mv (.k 181)),
 .o 182 (.ex true 0 174),
 .u 183 (.ex false 1 174) [8] 0,
 .u 10 (.al ([.i .i64 0,.i .i64 0,.l .o 3 [],.l .x 17 [],.b false,.b false,.b false,.b false,.b false,.i .i64 0,.i .i64 0,.i .i64 0,.i .i64 0,.l .o 4 [],.b false,.l .o 4 [],.i .i64 0,.b false])) [0,1,2,3,4,5,6,7,8,9] 0,
 ⟨none,none,.st 18 (.t 10) (.k 182),[9],0⟩,
 .o 11 (.mv (.k 183))] true [0,3,10,11] [3,10])
 (.seq (.reg [] [.o 184 (.mv (.t 0)),
 .o 185 (.ld true 18 .tk (.k 10)),
 .o 186 (.nc (.k 184)),
 .o 187 (.fa 1 (.k 186)),
 .s (.st 18 (.k 187) (.k 185))] false [0,3,11] [3])
 (.reg [] [.o 188 (.mv (.t 0)),
 .o 189 (.nc (.k 188)),
 .o 190 (.fa 0 (.k 189)),
 .o 191 (.ld false 1 .cp (.k 190)),
 .u 192 (.fa 2 (.k 3)) [0,1,2,3] 0,
 .u 193 (.ld false 1 .cp (.k 192)) [0,1,2,3] 0,
 .o 194 (.call n_scan_Runner_Start [.k 191,.k 193]),
 .u 195 (.mv (.k 11)) [0,1,2,3,4,5,6] 0,
 .o 196 (.bin .eql (.k 194) (.k 195)),
 .o 5 (.mv (.k 196))] true [0,5] [])))
 (.seq (.reg [] [.o 19 (.mv (.t 0)),
 .o 20 (.nc (.k 19)),
 .o 21 (.fa 0 (.k 20)),
 .o 22 (.ld false 1 .cp (.k 21)),
 .o 23 (.call n_scan_Runner_Take [.k 22]),
 .o 18 (.mv (.k 23)),
 .o 24 (.ex false 0 18),
 .o 25 (.ex false 1 18),
 .o 12 (.al ([.i .i64 0,.i .i64 0,.l .o 4 [],.i .i64 0,.b false])),
 .s (.st 5 (.t 12) (.k 24)),
 .o 13 (.mv (.k 25))] false [0,12,13] [12])
 (.seq (.reg [] [.o 26 (.mv (.t 13)),
 .u 27 (.mv (.t 0)) [0] 0,
 .u 28 (.nc (.k 27)) [0] 0,
 .u 29 (.fa 1 (.k 28)) [0] 0,
 .u 30 (.fa 14 (.k 29)) [0] 0,
 .u 31 (.ld false 1 .cp (.k 30)) [0] 0,
 .o 32 (.eq false .bo (.k 26) (.k 31)),
 .o 33 (.mv (.k 32)),
 .c 33 true 34 (.mv (.t 13)),
 .c 33 true 35 (.mv (.k 34)),
 .c 35 true 36 (.fa 0 (.t 12)),
 .c 35 true 37 (.ld false 1 .cp (.k 36)),
 ⟨some 38,some (35,true),.mv (.t 0),[10,11],0⟩,
 ⟨some 39,some (35,true),.nc (.k 38),[10,11],0⟩,
 ⟨some 40,some (35,true),.fa 1 (.k 39),[10,11],0⟩,
 ⟨some 41,some (35,true),.fa 0 (.k 40),[10,11],0⟩,
 ⟨some 42,some (35,true),.fa 0 (.k 41),[10,11],0⟩,
 ⟨some 43,some (35,true),.ld false 1 .cp (.k 42),[10,11],0⟩,
 .c 35 true 44 (.bin .eql (.k 37) (.k 43)),
 .c 33 true 45 (.pick (.t 35) (.k 44) (.c (.b false))),
 .c 33 true 46 (.mv (.k 45)),
 .c 46 true 47 (.fa 1 (.t 12)),
 .c 46 true 48 (.ld false 1 .cp (.k 47)),
 ⟨some 49,some (46,true),.mv (.t 0),[21,22],0⟩,
 ⟨some 50,some (46,true),.nc (.k 49),[21,22],0⟩,
 ⟨some 51,some (46,true),.fa 1 (.k 50),[21,22],0⟩,
 ⟨some 52,some (46,true),.fa 0 (.k 51),[21,22],0⟩,
 ⟨some 53,some (46,true),.fa 1 (.k 52),[21,22],0⟩,
 ⟨some 54,some (46,true),.ld false 1 .cp (.k 53),[21,22],0⟩,
 .c 46 true 55 (.bin .eql (.k 48) (.k 54)),
 .c 33 true 56 (.pick (.t 46) (.k 55) (.c (.b false))),
 .c 33 true 57 (.mv (.k 56)),
 ⟨some 58,some (57,true),.ld true 5 .cp (.t 12),[],2⟩,
 ⟨some 59,some (57,true),.mv (.t 0),[32],0⟩,
 ⟨some 60,some (57,true),.nc (.k 59),[32],0⟩,
 ⟨some 61,some (57,true),.fa 1 (.k 60),[32],0⟩,
 ⟨some 62,some (57,true),.fa 15 (.k 61),[32],0⟩,
 ⟨some 63,some (57,true),.ld true 3 .cp (.k 62),[32],2⟩,
 .c 57 true 64 (.call n_c_law16_IsShot [.k 58,.k 63]),
 .c 57 true 65 (.bin .eql (.k 64) (.c (.i .i64 0))),
 .c 33 true 66 (.pick (.t 57) (.k 65) (.c (.b false))),
 .c 33 true 67 (.mv (.k 66)),
 .c 67 false 68 (.mv (.t 13)),
 .c 67 false 69 (.un .not (.k 68)),
 .c 67 false 70 (.mv (.k 69)),
 .c 70 true 71 (.fa 2 (.t 12)),
 .c 70 true 72 (.ld false 1 .cp (.k 71)),
 .c 70 true 73 (.len false (.k 72)),
 .c 70 true 74 (.bin .eql (.k 73) (.c (.i .i64 0))),
 .c 67 false 75 (.pick (.t 70) (.k 74) (.c (.b false))),
 .c 33 true 76 (.pick (.t 67) (.c (.b true)) (.k 75)),
 .o 77 (.pick (.t 33) (.k 76) (.c (.b false))),
 .o 5 (.mv (.k 77))] true [0,5] [])
 (.reg [] [.o 78 (.mv (.t 0)),
 .o 79 (.nc (.k 78)),
 .o 80 (.fa 1 (.k 79)),
 .o 81 (.fa 14 (.k 80)),
 .s (.st 1 (.k 81) (.c (.b false)))] false [0,5] [])))))))))))))))
 (.seq (.reg [] [.o 197 (.mv (.k 5)),
 .o 198 (.mv (.k 197)),
 .c 198 true 199 (.mv (.t 0)),
 .c 198 true 200 (.nc (.k 199)),
 .c 198 true 201 (.fa 0 (.k 200)),
 .c 198 true 202 (.ld false 1 .cp (.k 201)),
 .c 198 true 203 (.call n_scan_Runner_Scanning [.k 202]),
 ⟨some 204,some (198,true),.mv (.t 0),[2,3,4,5,6],0⟩,
 ⟨some 205,some (198,true),.nc (.k 204),[2,3,4,5,6],0⟩,
 ⟨some 206,some (198,true),.fa 1 (.k 205),[2,3,4,5,6],0⟩,
 ⟨some 207,some (198,true),.fa 5 (.k 206),[2,3,4,5,6],0⟩,
 ⟨some 208,some (198,true),.ld false 1 .cp (.k 207),[2,3,4,5,6],0⟩,
 .c 198 true 209 (.eq false .bo (.k 203) (.k 208)),
 .o 210 (.pick (.t 198) (.k 209) (.c (.b false))),
 .o 211 (.mv (.k 210)),
 .c 211 true 212 (.mv (.t 0)),
 .c 211 true 213 (.nc (.k 212)),
 .c 211 true 214 (.fa 0 (.k 213)),
 .c 211 true 215 (.ld false 1 .cp (.k 214)),
 .c 211 true 216 (.call n_scan_Runner_Quiet [.k 215]),
 ⟨some 217,some (211,true),.mv (.t 0),[15,16,17,18,19],0⟩,
 ⟨some 218,some (211,true),.nc (.k 217),[15,16,17,18,19],0⟩,
 ⟨some 219,some (211,true),.fa 1 (.k 218),[15,16,17,18,19],0⟩,
 ⟨some 220,some (211,true),.fa 5 (.k 219),[15,16,17,18,19],0⟩,
 ⟨some 221,some (211,true),.ld false 1 .cp (.k 220),[15,16,17,18,19],0⟩,
 .c 211 true 222 (.mv (.k 221)),
 .c 222 true 223 (.mv (.t 0)),
 .c 222 true 224 (.nc (.k 223)),
 .c 222 true 225 (.fa 1 (.k 224)),
 .c 222 true 226 (.fa 7 (.k 225)),
 .c 222 true 227 (.ld false 1 .cp (.k 226)),
 .c 211 true 228 (.pick (.t 222) (.k 227) (.c (.b false))),
 .c 211 true 229 (.eq false .bo (.k 216) (.k 228)),
 .o 230 (.pick (.t 211) (.k 229) (.c (.b false))),
 .o 231 (.mv (.k 230)),
 .c 231 true 232 (.mv (.t 0)),
 .c 231 true 233 (.nc (.k 232)),
 .c 231 true 234 (.fa 0 (.k 233)),
 .c 231 true 235 (.ld false 1 .cp (.k 234)),
 .c 231 true 236 (.nc (.k 235)),
 .c 231 true 237 (.fa 0 (.k 236)),
 .c 231 true 238 (.ld false 1 .cp (.k 237)),
 .c 231 true 239 (.nc (.k 238)),
 .c 231 true 240 (.fa 0 (.k 239)),
 .c 231 true 241 (.ld false 1 .cp (.k 240)),
 .c 231 true 242 (.call n_engine_Engine_Closed [.k 241]),
 ⟨some 243,some (231,true),.mv (.t 0),[35,36,37,38,39,40,41,42,43,44,45],0⟩,
 ⟨some 244,some (231,true),.nc (.k 243),[35,36,37,38,39,40,41,42,43,44,45],0⟩,
 ⟨some 245,some (231,true),.fa 1 (.k 244),[35,36,37,38,39,40,41,42,43,44,45],0⟩,
 ⟨some 246,some (231,true),.fa 0 (.k 245),[35,36,37,38,39,40,41,42,43,44,45],0⟩,
 ⟨some 247,some (231,true),.fa 4 (.k 246),[35,36,37,38,39,40,41,42,43,44,45],0⟩,
 ⟨some 248,some (231,true),.ld false 1 .cp (.k 247),[35,36,37,38,39,40,41,42,43,44,45],0⟩,
 .c 231 true 249 (.eq false .bo (.k 242) (.k 248)),
 .o 250 (.pick (.t 231) (.k 249) (.c (.b false))),
 .o 251 (.mv (.k 250)),
 .c 251 true 252 (.mv (.t 0)),
 .c 251 true 253 (.nc (.k 252)),
 .c 251 true 254 (.fa 0 (.k 253)),
 .c 251 true 255 (.ld false 1 .cp (.k 254)),
 .c 251 true 256 (.call n_scan_Runner_Ticks [.k 255]),
 ⟨some 257,some (251,true),.mv (.t 0),[55,56,57,58,59],0⟩,
 ⟨some 258,some (251,true),.nc (.k 257),[55,56,57,58,59],0⟩,
 ⟨some 259,some (251,true),.fa 1 (.k 258),[55,56,57,58,59],0⟩,
 ⟨some 260,some (251,true),.fa 12 (.k 259),[55,56,57,58,59],0⟩,
 ⟨some 261,some (251,true),.ld false 1 .cp (.k 260),[55,56,57,58,59],0⟩,
 .c 251 true 262 (.bin .eql (.k 256) (.k 261)),
 .o 263 (.pick (.t 251) (.k 262) (.c (.b false))),
 .o 4 (.mv (.k 263))] true [4] [])
 .ret))))⟩

def F_engine_Engine_Memory : F := ⟨1,[.inl 2],
 (.seq (.reg [] [.o 2 (.mv (.c (.nilp)))] false [0] [])
 (.seq (.reg [] [.o 3 (.mv (.k 0)),
 .o 4 (.nc (.k 3)),
 .o 5 (.fa 2 (.k 4)),
 .o 6 (.ld false 1 .cp (.k 5)),
 .o 2 (.mv (.k 6))] false [2] [])
 .ret))⟩

def F_c_law06_Run_Same : F := ⟨1,[.inl 2],
 (.seq (.reg [.zz 0] [.o 1 (.bx (.k 0)),
 .o 2 (.mv (.c (.i .i64 0)))] false [1] [1])
 (.seq (.seq (.reg [] [.o 7 (.fa 0 (.t 1)),
 .o 8 (.ld false 1 .cp (.k 7)),
 .o 9 (.call n_cell_Memory_Clock [.k 8]),
 .u 10 (.fa 1 (.t 1)) [0,1,2] 0,
 .u 11 (.fa 0 (.k 10)) [0,1,2] 0,
 .u 12 (.ld false 1 .cp (.k 11)) [0,1,2] 0,
 .u 13 (.len false (.k 12)) [0,1,2] 0,
 .u 14 (.cv (.int .u64) (.k 13)) [0,1,2] 0,
 .o 15 (.bin .neq (.k 9) (.k 14)),
 .o 16 (.mv (.k 15)),
 .c 16 false 17 (.fa 0 (.t 1)),
 .c 16 false 18 (.ld false 1 .cp (.k 17)),
 .c 16 false 19 (.call n_cell_Memory_Len [.k 18]),
 ⟨some 20,some (16,false),.fa 1 (.t 1),[10,11,12],0⟩,
 ⟨some 21,some (16,false),.ld true 1 .cp (.k 20),[10,11,12],2⟩,
 .c 16 false 22 (.call n_c_ref05_Len [.k 21]),
 .c 16 false 23 (.bin .neq (.k 19) (.k 22)),
 .o 24 (.pick (.t 16) (.c (.b true)) (.k 23))] true [1,24] [1])
 (.cond 24 (.seq (.reg [] [.o 2 (.mv (.c (.i .i64 (-1))))] false [2] [])
 .ret)
 .skip))
 (.seq (.seq (.reg [] [.o 3 (.mv (.c (.i .i64 0)))] false [1,3] [1])
 (.blk 0 (.loop (.seq (.seq (.reg [] [.o 25 (.mv (.t 3)),
 .o 26 (.fa 0 (.t 1)),
 .o 27 (.ld false 1 .cp (.k 26)),
 .o 28 (.call n_cell_Memory_Len [.k 27]),
 .o 29 (.bin .lss (.k 25) (.k 28))] false [1,3,29] [1])
 (.cond 29 .skip
 (.exit 0)))
 (.seq (.blk 1 (.seq (.reg [] [.o 33 (.fa 1 (.t 1)),
 .z 34 (.ld true 1 .cp (.k 33)) 2,
 .o 35 (.mv (.t 3)),
 .o 36 (.call n_c_ref05_Read [.k 34,.k 35]),
 .o 32 (.mv (.k 36)),
 .o 37 (.ex false 0 32),
 .o 38 (.ex false 1 32),
 .o 5 (.al ([.i .i64 0,.l .o 2 []])),
 .o 4 (.mv (.k 37)),
 .s (.st 2 (.t 5) (.k 38))] false [1,3,4,5] [1,5])
 (.seq (.reg [] [.o 39 (.fa 0 (.t 1)),
 .o 40 (.ld false 1 .cp (.k 39)),
 .o 41 (.mv (.t 3)),
 .o 42 (.call n_cell_Memory_Read [.k 40,.k 41]),
 .o 6 (.al ([.i .u64 0,.i .i64 0,.l .o 2 []])),
 .s (.st 3 (.t 6) (.k 42))] false [1,3,4,5,6] [1,5,6])
 (.seq (.reg [] [.o 43 (.fa 0 (.t 6)),
 .o 44 (.ld false 1 .cp (.k 43)),
 .o 45 (.mv (.k 4)),
 .o 46 (.cv (.int .u64) (.k 45)),
 .o 47 (.bin .neq (.k 44) (.k 46)),
 .o 48 (.mv (.k 47)),
 .c 48 false 49 (.fa 1 (.k 6)),
 ⟨some 50,some (48,false),.ld true 2 .tk (.k 49),[],2⟩,
 ⟨some 51,some (48,false),.ld true 2 .tk (.k 5),[],2⟩,
 .c 48 false 52 (.call n_c_law05_Is [.k 50,.k 51]),
 .c 48 false 53 (.bin .neq (.k 52) (.c (.i .i64 0))),
 .o 54 (.pick (.k 48) (.c (.b true)) (.k 53))] false [1,3,54] [1])
 (.cond 54 (.seq (.reg [] [.o 2 (.mv (.c (.i .i64 (-1))))] false [2] [])
 .ret)
 .skip)))))
 (.reg [] [.o 30 (.mv (.k 3)),
 .o 31 (.bin .add (.k 30) (.c (.i .i64 1))),
 .o 3 (.mv (.k 31))] false [1,3] [1]))))))
 (.seq (.reg [] [.o 2 (.mv (.c (.i .i64 0)))] false [2] [])
 .ret))))⟩

def F_scan_New : F := ⟨2,[.inl 4,.inl 5],
 (.seq (.reg [] [.o 4 (.mv (.c (.nilp))),
 .o 5 (.mv (.c (.i .i64 0)))] false [0,1] [])
 (.seq (.reg [] [.o 9 (.mv (.k 0)),
 .o 10 (.mv (.k 1)),
 .o 11 (.call n_engine_New [.k 9,.k 10]),
 .o 8 (.mv (.k 11)),
 .o 12 (.ex false 0 8),
 .o 13 (.ex false 1 8),
 .o 6 (.mv (.k 12)),
 .o 7 (.mv (.k 13))] false [6,7] [])
 (.seq (.seq (.reg [] [.o 14 (.mv (.t 7)),
 .o 15 (.bin .neq (.k 14) (.c (.i .i64 0)))] false [6,7,15] [])
 (.cond 15 (.seq (.reg [] [.o 16 (.mv (.k 7)),
 .o 4 (.mv (.c (.nilp))),
 .o 5 (.mv (.k 16))] false [4,5] [])
 .ret)
 .skip))
 (.seq (.reg [] [.o 17 (.mv (.k 6)),
 .o 18 (.call n_history_Of [.k 17]),
 .o 19 (.call n_scan_Of [.k 18]),
 .o 4 (.mv (.k 19)),
 .o 5 (.mv (.c (.i .i64 0)))] false [4,5] [])
 .ret))))⟩

def F_scan_Runner_Open : F := ⟨1,[],
 (.seq (.seq (.reg [] [.o 2 (.mv (.t 0)),
 .o 3 (.call n_scan_Runner_Quiet [.k 2])] false [0,3] [])
 (.cond 3 (.seq (.reg [] [.o 4 (.mv (.k 0)),
 .o 5 (.nc (.k 4)),
 .o 6 (.fa 1 (.k 5)),
 .o 7 (.ld false 1 .cp (.k 6)),
 .o 8 (.nc (.k 7)),
 .o 9 (.fa 5 (.k 8)),
 .s (.st 1 (.k 9) (.c (.b false)))] false [] [])
 .ret)
 .skip))
 (.reg [] [.o 10 (.mv (.k 0)),
 .o 11 (.nc (.k 10)),
 .o 12 (.fa 0 (.k 11)),
 .o 13 (.ld false 1 .cp (.k 12)),
 .o 14 (.nc (.k 13)),
 .o 15 (.fa 0 (.k 14)),
 .o 16 (.ld false 1 .cp (.k 15)),
 .o 17 (.call n_engine_Engine_Open [.k 16])] false [] []))⟩

def F_scan_Runner_Start : F := ⟨2,[.inl 4],
 (.seq (.reg [] [.o 4 (.mv (.c (.i .i64 0)))] false [0,1] [])
 (.seq (.blk 0 (.seq (.reg [] [.o 6 (.mv (.t 1)),
 .o 7 (.bin .lss (.k 6) (.c (.i .i64 1))),
 .o 8 (.mv (.k 7)),
 .c 8 false 9 (.mv (.t 1)),
 .c 8 false 10 (.bin .gtr (.k 9) (.c (.i .i64 8))),
 .o 11 (.pick (.k 8) (.c (.b true)) (.k 10)),
 .o 5 (.mv (.k 11))] false [0,1,5] [])
 (.cond 5 (.seq (.reg [] [.o 4 (.mv (.c (.i .i64 4)))] false [4] [])
 .ret)
 (.seq (.reg [] [.o 13 (.mv (.t 0)),
 .o 14 (.nc (.k 13)),
 .o 15 (.fa 1 (.k 14)),
 .o 16 (.ld false 1 .cp (.k 15)),
 .o 17 (.eq true .pt (.k 16) (.c (.nilp))),
 .o 18 (.mv (.k 17)),
 .c 18 false 19 (.mv (.t 0)),
 .c 18 false 20 (.nc (.k 19)),
 .c 18 false 21 (.fa 2 (.k 20)),
 .c 18 false 22 (.ld false 1 .cp (.k 21)),
 .c 18 false 23 (.eq true .pt (.k 22) (.c (.nilp))),
 .o 24 (.pick (.k 18) (.c (.b true)) (.k 23)),
 .o 12 (.mv (.k 24))] false [0,1,12] [])
 (.cond 12 (.seq (.reg [] [.o 4 (.mv (.c (.i .i64 11)))] false [4] [])
 .ret)
 .skip)))))
 (.seq (.reg [] [.o 25 (.mv (.k 0)),
 .o 26 (.mv (.t 1)),
 .o 27 (.mv (.k 1)),
 .o 28 (.bd ([.i .i64 0,.i .i64 0,.l .o 4 [],.i .i64 0,.b false,.b false]) [(0,1,.k 26),(1,1,.k 27),(3,1,.c (.i .i64 (-1)))]),
 .o 29 (.bg (.k 28)),
 .o 30 (.nc (.k 25)),
 .o 31 (.fa 1 (.k 30)),
 .s (.st 1 (.k 31) (.k 29))] false [] [])
 (.seq (.reg [] [.o 4 (.mv (.c (.i .i64 0)))] false [4] [])
 .ret))))⟩

def F_scan_Runner_Scanning : F := ⟨1,[.inl 2],
 (.seq (.reg [] [.o 2 (.mv (.c (.b false)))] false [0] [])
 (.seq (.reg [] [.o 3 (.mv (.k 0)),
 .o 4 (.nc (.k 3)),
 .o 5 (.fa 1 (.k 4)),
 .o 6 (.ld false 1 .cp (.k 5)),
 .o 7 (.eq true .pt (.k 6) (.c (.nilp))),
 .o 2 (.mv (.k 7))] false [2] [])
 .ret))⟩

def F_engine_Engine_Busy : F := ⟨1,[.inl 2],
 (.seq (.reg [] [.o 2 (.mv (.c (.l .o 1 [])))] false [0] [])
 (.seq (.reg [] [.o 3 (.mv (.c (.l .o 1 [])))] false [0,3] [])
 (.seq (.seq (.reg [] [.o 6 (.mv (.k 0)),
 .o 7 (.nc (.k 6)),
 .o 8 (.fa 4 (.k 7)),
 .o 9 (.ld true 6 .cp (.k 8)),
 .o 10 (.mv (.c (.i .i64 0)))] false [3,9,10] [])
 (.blk 0 (.loop (.seq (.reg [] [.o 11 (.bin .lss (.t 10) (.c (.i .i64 6)))] false [3,9,10,11] [])
 (.seq (.cond 11 .skip
 (.exit 0))
 (.seq (.blk 1 (.seq (.reg [] [.o 12 (.mv (.t 10)),
 .o 13 (.ixa false 1 6 (.t 9) (.t 10)),
 .o 4 (.mv (.k 12)),
 .o 5 (.mv (.k 13))] false [3,4,5,9,10] [])
 (.seq (.reg [] [.o 14 (.mv (.k 5)),
 .o 15 (.eq true .pt (.k 14) (.c (.nilp)))] false [3,4,9,10,15] [])
 (.cond 15 (.reg [] [.o 16 (.mv (.k 3)),
 .o 17 (.mv (.k 4)),
 .o 18 (.bs 1 1 (.i .i64 0) [(0,.k 17)]),
 .z 19 (.app 1 8 (.k 16) (.k 18)) 1,
 .o 3 (.mv (.k 19))] false [3,9,10] [])
 .skip))))
 (.reg [] [.o 20 (.bin .add (.k 10) (.c (.i .i64 1))),
 .o 10 (.mv (.k 20))] false [3,9,10] [])))))))
 (.seq (.reg [] [.o 21 (.mv (.k 3)),
 .o 2 (.mv (.k 21))] false [2] [])
 .ret))))⟩

def F_scan_Runner_Pick : F := ⟨2,[.inr (4,true,11),.inl 5],
 (.seq (.reg [] [.o 4 (.al ([.i .i64 0,.i .i64 0,.f .f64 0,.i .i64 0,.i .i64 0,.i .i64 0,.b false,.b false,.f .f64 0,.i .i64 0,.i .i64 0])),
 .o 5 (.mv (.c (.b false)))] false [0,1,4] [4])
 (.seq (.reg [] [.o 10 (.mv (.t 0)),
 .o 11 (.nc (.k 10)),
 .o 12 (.fa 0 (.k 11)),
 .o 13 (.ld false 1 .cp (.k 12)),
 .o 14 (.nc (.k 13)),
 .o 15 (.fa 0 (.k 14)),
 .o 16 (.ld false 1 .cp (.k 15)),
 .o 17 (.call n_engine_Engine_Busy [.k 16]),
 .o 18 (.len false (.k 17)),
 .o 6 (.mv (.k 18))] false [0,1,4,6] [4])
 (.seq (.seq (.reg [] [.o 19 (.mv (.t 0)),
 .o 20 (.nc (.k 19)),
 .o 21 (.fa 1 (.k 20)),
 .o 22 (.ld false 1 .cp (.k 21)),
 .o 23 (.eq false .pt (.k 22) (.c (.nilp)))] false [0,1,4,6,23] [4])
 (.cond 23 (.seq (.reg [] [.o 25 (.mv (.t 0)),
 .o 26 (.nc (.k 25)),
 .o 27 (.fa 0 (.k 26)),
 .o 28 (.ld false 1 .cp (.k 27)),
 .o 29 (.mv (.k 1)),
 .o 30 (.call n_history_Recorder_Pick [.k 28,.k 29]),
 .o 24 (.mv (.k 30)),
 .o 31 (.ex false 0 24),
 .o 32 (.ex false 1 24),
 .o 7 (.al ([.i .i64 0,.i .i64 0,.f .f64 0,.i .i64 0,.i .i64 0,.i .i64 0,.b false,.b false,.f .f64 0,.i .i64 0,.i .i64 0])),
 .s (.st 11 (.t 7) (.k 31)),
 .o 8 (.mv (.k 32))] false [0,4,7,8] [4,7])
 (.seq (.seq (.reg [] [.o 33 (.mv (.t 8))] false [0,4,7,8,33] [4,7])
 (.cond 33 (.reg [] [.o 34 (.mv (.k 0)),
 .o 35 (.nc (.t 34)),
 .o 36 (.fa 3 (.k 35)),
 .o 37 (.ld false 1 .cp (.k 36)),
 .o 38 (.bin .add (.k 37) (.c (.i .i64 1))),
 .o 39 (.nc (.k 34)),
 .o 40 (.fa 3 (.k 39)),
 .s (.st 1 (.k 40) (.k 38))] false [4,7,8] [4,7])
 .skip))
 (.seq (.reg [] [.o 41 (.ld true 11 .cp (.k 7)),
 .o 42 (.mv (.k 8)),
 .s (.st 11 (.t 4) (.k 41)),
 .o 5 (.mv (.k 42))] false [4,5] [4])
 .ret)))
 .skip))
 (.seq (.reg [] [.o 43 (.mv (.t 0)),
 .o 44 (.nc (.t 43)),
 .o 45 (.fa 3 (.k 44)),
 .o 46 (.ld false 1 .cp (.k 45)),
 .o 47 (.bin .add (.k 46) (.c (.i .i64 1))),
 .o 48 (.nc (.k 43)),
 .o 49 (.fa 3 (.k 48)),
 .s (.st 1 (.k 49) (.k 47))] false [0,1,4,6] [4])
 (.seq (.seq (.reg [] [.o 50 (.mv (.k 1)),
 .o 51 (.mv (.t 6)),
 .o 52 (.bin .add (.k 51) (.c (.i .i64 1))),
 .o 53 (.call n_op_Into [.k 50,.k 52]),
 .o 9 (.mv (.k 53))] false [0,4,6,9] [4])
 (.seq (.reg [] [.o 54 (.mv (.t 9)),
 .o 55 (.mv (.t 6)),
 .o 56 (.bin .lss (.k 54) (.k 55))] false [0,4,6,9,56] [4])
 (.cond 56 (.seq (.reg [] [.o 57 (.mv (.k 0)),
 .o 58 (.nc (.k 57)),
 .o 59 (.fa 0 (.k 58)),
 .o 60 (.ld false 1 .cp (.k 59)),
 .o 61 (.mv (.k 9)),
 .o 62 (.call n_history_Recorder_Pick [.k 60,.k 61]),
 .o 63 (.ex false 0 62),
 .o 64 (.ex false 1 62),
 .s (.st 11 (.t 4) (.k 63)),
 .o 5 (.mv (.k 64))] false [4,5] [4])
 .ret)
 .skip)))
 (.seq (.reg [] [.o 65 (.mv (.k 0)),
 .o 66 (.mv (.k 6)),
 .o 67 (.call n_scan_Runner_step [.k 65,.k 66])] false [4] [4])
 (.seq (.reg [] [.o 68 (.bd ([.i .i64 0,.i .i64 0,.f .f64 0,.i .i64 0,.i .i64 0,.i .i64 0,.b false,.b false,.f .f64 0,.i .i64 0,.i .i64 0]) [(0,1,.c (.i .i64 (-1)))]),
 .s (.st 11 (.t 4) (.k 68)),
 .o 5 (.mv (.c (.b true)))] false [4,5] [4])
 .ret)))))))⟩

def F_scan_Runner_Take : F := ⟨1,[.inr (2,true,5),.inl 3],
 (.seq (.reg [] [.o 2 (.al ([.i .i64 0,.i .i64 0,.l .o 4 [],.i .i64 0,.b false])),
 .o 3 (.mv (.c (.b false)))] false [0,2] [2])
 (.seq (.seq (.reg [] [.o 5 (.mv (.t 0)),
 .o 6 (.nc (.k 5)),
 .o 7 (.fa 2 (.k 6)),
 .o 8 (.ld false 1 .cp (.k 7)),
 .o 9 (.eq false .pt (.k 8) (.c (.nilp)))] false [0,2,9] [2])
 (.cond 9 (.seq (.reg [] [.o 10 (.bd ([.i .i64 0,.i .i64 0,.l .o 4 [],.i .i64 0,.b false]) []),
 .s (.st 5 (.t 2) (.k 10)),
 .o 3 (.mv (.c (.b false)))] false [2,3] [2])
 .ret)
 .skip))
 (.seq (.reg [] [.o 11 (.mv (.t 0)),
 .o 12 (.nc (.k 11)),
 .o 13 (.fa 2 (.k 12)),
 .o 14 (.ld false 1 .cp (.k 13)),
 .o 15 (.nc (.k 14)),
 .o 16 (.ld true 5 .cp (.k 15)),
 .o 4 (.al ([.i .i64 0,.i .i64 0,.l .o 4 [],.i .i64 0,.b false])),
 .s (.st 5 (.t 4) (.k 16))] false [0,2,4] [2,4])
 (.seq (.reg [] [.o 17 (.mv (.k 0)),
 .o 18 (.nc (.k 17)),
 .o 19 (.fa 2 (.k 18)),
 .s (.st 1 (.k 19) (.c (.nilp)))] false [2,4] [2,4])
 (.seq (.reg [] [.o 20 (.ld true 5 .tk (.k 4)),
 .s (.st 5 (.t 2) (.k 20)),
 .o 3 (.mv (.c (.b true)))] false [2,3] [2])
 .ret)))))⟩

def F_scan_Runner_Quiet : F := ⟨1,[.inl 2],
 (.seq (.reg [] [.o 2 (.mv (.c (.b false)))] false [0] [])
 (.seq (.reg [] [.o 3 (.mv (.t 0)),
 .o 4 (.nc (.k 3)),
 .o 5 (.fa 1 (.k 4)),
 .o 6 (.ld false 1 .cp (.k 5)),
 .o 7 (.eq true .pt (.k 6) (.c (.nilp))),
 .o 8 (.mv (.k 7)),
 .c 8 true 9 (.mv (.k 0)),
 .c 8 true 10 (.nc (.k 9)),
 .c 8 true 11 (.fa 1 (.k 10)),
 .c 8 true 12 (.ld false 1 .cp (.k 11)),
 .c 8 true 13 (.nc (.k 12)),
 .c 8 true 14 (.fa 4 (.k 13)),
 .c 8 true 15 (.ld false 1 .cp (.k 14)),
 .o 16 (.pick (.k 8) (.k 15) (.c (.b false))),
 .o 2 (.mv (.k 16))] false [2] [])
 .ret))⟩

def F_engine_Engine_Closed : F := ⟨1,[.inl 2],
 (.seq (.reg [] [.o 2 (.mv (.c (.b false)))] false [0] [])
 (.seq (.reg [] [.o 3 (.mv (.k 0)),
 .o 4 (.nc (.k 3)),
 .o 5 (.fa 10 (.k 4)),
 .o 6 (.ld false 1 .cp (.k 5)),
 .o 2 (.mv (.k 6))] false [2] [])
 .ret))⟩

def F_engine_New : F := ⟨2,[.inl 4,.inl 5],
 (.seq (.reg [] [.o 4 (.mv (.c (.nilp))),
 .o 5 (.mv (.c (.i .i64 0)))] false [0,1] [])
 (.seq (.reg [] [.o 6 (.mv (.k 0)),
 .o 7 (.mv (.k 1)),
 .o 8 (.call n_cell_New []),
 .o 9 (.call n_engine_With [.k 6,.k 7,.k 8]),
 .o 10 (.ex false 0 9),
 .o 11 (.ex false 1 9),
 .o 4 (.mv (.k 10)),
 .o 5 (.mv (.k 11))] false [4,5] [])
 .ret))⟩

def F_history_Of : F := ⟨1,[.inl 2],
 (.seq (.reg [] [.o 2 (.mv (.c (.nilp)))] false [0] [])
 (.seq (.reg [] [.o 3 (.mv (.k 0)),
 .o 4 (.bd ([.nilp,.l .x 12 [],.i .i64 0,.i .i64 0,.i .i64 0,.i .i64 0,.i .i64 0,.i .i64 0]) [(0,1,.k 3)]),
 .o 5 (.bg (.k 4)),
 .o 2 (.mv (.k 5))] false [2] [])
 .ret))⟩

def F_scan_Of : F := ⟨1,[.inl 2],
 (.seq (.reg [] [.o 2 (.mv (.c (.nilp)))] false [0] [])
 (.seq (.reg [] [.o 3 (.mv (.k 0)),
 .o 4 (.bd ([.nilp,.nilp,.nilp,.i .i64 0]) [(0,1,.k 3)]),
 .o 5 (.bg (.k 4)),
 .o 2 (.mv (.k 5))] false [2] [])
 .ret))⟩

def F_history_Recorder_Begin : F := ⟨3,[.inl 6],
 (.seq (.reg [] [.o 5 (.bx (.k 2)),
 .o 6 (.mv (.c (.i .i64 0)))] false [0,1,5] [5])
 (.seq (.reg [] [.o 8 (.mv (.t 0)),
 .o 9 (.nc (.k 8)),
 .o 10 (.fa 0 (.k 9)),
 .o 11 (.ld false 1 .cp (.k 10)),
 .u 12 (.mv (.t 1)) [0,1,2,3] 0,
 .u 13 (.ld true 5 .cp (.t 5)) [0,1,2,3,4] 0,
 .o 14 (.call n_engine_Engine_Begin [.k 11,.k 12,.k 13]),
 .o 7 (.mv (.k 14))] true [0,1,5,7] [5])
 (.seq (.seq (.reg [] [.o 15 (.mv (.t 7)),
 .o 16 (.bin .eql (.k 15) (.c (.i .i64 0)))] false [0,1,5,7,16] [5])
 (.cond 16 (.seq (.reg [] [.o 17 (.mv (.t 0)),
 .u 18 (.mv (.t 1)) [0] 0,
 .u 19 (.mv (.t 0)) [0,1] 0,
 .u 20 (.nc (.k 19)) [0,1] 0,
 .u 21 (.fa 1 (.k 20)) [0,1] 0,
 .u 22 (.lda 1 (.k 21)) [0,1] 1,
 .u 23 (.len false (.k 22)) [0,1] 0,
 .u 24 (.bin .add (.k 23) (.c (.i .i64 1))) [0,1] 0,
 .u 25 (.nc (.k 17)) [1,2,3,4,5,6,7] 0,
 .u 26 (.fa 2 (.k 25)) [1,2,3,4,5,6,7] 0,
 .o 27 (.ia 1 (some 6) (.k 26) (.k 18)),
 .s (.st 1 (.k 27) (.k 24))] true [0,1,5,7] [5])
 (.reg [] [.o 28 (.mv (.t 0)),
 .u 29 (.mv (.t 0)) [0] 0,
 .u 30 (.nc (.k 29)) [0] 0,
 .u 31 (.fa 1 (.k 30)) [0] 0,
 .u 32 (.ld false 1 .tk (.k 31)) [0] 0,
 .u 33 (.mv (.k 1)) [0,1,2,3,4] 0,
 .u 34 (.ld true 5 .cp (.k 5)) [0,1,2,3,4,5] 0,
 .u 35 (.mv (.t 0)) [0,1,2,3,4,5,6] 0,
 .u 36 (.nc (.k 35)) [0,1,2,3,4,5,6] 0,
 .u 37 (.fa 0 (.k 36)) [0,1,2,3,4,5,6] 0,
 .u 38 (.ld false 1 .cp (.k 37)) [0,1,2,3,4,5,6] 0,
 .u 39 (.callr n_engine_Engine_Steps [.k 38] (.t 0)) [0,1,2,3,4,5,6] 0,
 .u 40 (.bd ([.i .i64 0,.i .i64 0,.f .f64 0,.i .i64 0,.i .i64 0,.i .i64 0,.i .i64 0,.i .i64 0,.b false,.f .f64 0,.i .i64 0,.i .i64 0]) [(0,1,.k 33),(1,5,.k 34),(6,1,.k 39),(7,1,.c (.i .i64 (-1)))]) [0,1,2,3,4] 0,
 .u 41 (.bs 12 1 (.a ([.i .i64 0,.i .i64 0,.f .f64 0,.i .i64 0,.i .i64 0,.i .i64 0,.i .i64 0,.i .i64 0,.b false,.f .f64 0,.i .i64 0,.i .i64 0])) [(0,.k 40)]) [0,1,2,3,4] 0,
 .u 42 (.app 12 96 (.k 32) (.k 41)) [0] 0,
 .o 43 (.nc (.k 28)),
 .o 44 (.fa 1 (.k 43)),
 .s (.st 1 (.k 44) (.k 42))] true [7] []))
 .skip))
 (.seq (.reg [] [.o 45 (.mv (.k 7)),
 .o 6 (.mv (.k 45))] false [6] [])
 .ret))))⟩

def F_c_law06_Own : F := ⟨2,[.inr (4,true,5)],
 (.seq (.reg [] [.o 3 (.bx (.k 1)),
 .o 4 (.al ([.i .i64 0,.f .f64 0,.i .i64 0,.i .i64 0,.i .i64 0]))] false [0,3,4] [3,4])
 (.seq (.reg [] [.o 9 (.mv (.k 0)),
 .o 10 (.call n_c_ref06_Of [.k 9]),
 .o 8 (.mv (.k 10)),
 .o 11 (.ex false 0 8),
 .o 12 (.ex false 1 8),
 .o 5 (.mv (.k 11)),
 .o 6 (.mv (.k 12))] false [3,4,5,6] [3,4])
 (.seq (.reg [] [.o 13 (.mv (.t 5)),
 .u 14 (.fa 0 (.t 3)) [0] 0,
 .u 15 (.ld false 1 .cp (.k 14)) [0] 0,
 .u 16 (.mv (.k 6)) [0,1,2] 0,
 .u 17 (.mv (.t 5)) [0,1,2,3] 0,
 .u 18 (.bin .sub (.k 16) (.k 17)) [0,1,2] 0,
 .u 19 (.bin .add (.k 18) (.c (.i .i64 1))) [0,1,2] 0,
 .u 20 (.call n_c_ref06_Into [.k 15,.k 19]) [0] 0,
 .o 21 (.bin .add (.k 13) (.k 20)),
 .u 22 (.fa 1 (.t 3)) [0,1,2,3,4,5,6,7,8] 0,
 .u 23 (.ld true 2 .cp (.k 22)) [0,1,2,3,4,5,6,7,8] 0,
 .u 24 (.call n_c_law04_Own [.k 23]) [0,8] 0,
 .u 25 (.fa 3 (.t 3)) [0,1,2,3,4,5,6,7,8,9,10,11] 0,
 .u 26 (.ld false 1 .cp (.k 25)) [0,1,2,3,4,5,6,7,8,9,10,11] 0,
 .u 27 (.fa 4 (.t 3)) [0,1,2,3,4,5,6,7,8,9,10,11,12,13] 0,
 .u 28 (.ld false 1 .cp (.k 27)) [0,1,2,3,4,5,6,7,8,9,10,11,12,13] 0,
 .u 29 (.bd ([.i .i64 0,.i .i64 0]) [(0,1,.k 26),(1,1,.k 28)]) [0,1,2,3,4,5,6,7,8,9,10,11] 0,
 .o 30 (.bd ([.i .i64 0,.f .f64 0,.i .i64 0,.i .i64 0,.i .i64 0]) [(0,1,.k 21),(1,2,.k 24),(3,2,.k 29)]),
 .u 7 (.al ([.i .i64 0,.f .f64 0,.i .i64 0,.i .i64 0,.i .i64 0])) [0,1,2,3,4,5,6,7,8,9,10,11,12,13,14,15,16,17] 0,
 .s (.st 5 (.t 7) (.k 30))] true [4,7] [4,7])
 (.seq (.seq (.reg [] [.o 31 (.fa 0 (.t 7)),
 .o 32 (.ld false 1 .cp (.k 31)),
 .o 33 (.bin .eql (.k 32) (.c (.i .i64 5)))] false [4,7,33] [4,7])
 (.cond 33 (.reg [] [.o 34 (.fa 1 (.t 7)),
 .o 35 (.fa 1 (.k 34)),
 .o 36 (.ld false 1 .cp (.k 35)),
 .o 37 (.bin .and (.k 36) (.c (.i .i64 4294967295))),
 .o 38 (.fa 1 (.t 7)),
 .o 39 (.fa 1 (.k 38)),
 .s (.st 1 (.k 39) (.k 37))] false [4,7] [4,7])
 .skip))
 (.seq (.reg [] [.o 40 (.ld true 5 .cp (.k 7)),
 .s (.st 5 (.t 4) (.k 40))] false [4] [4])
 .ret)))))⟩

def F_scan_Runner_Ticks : F := ⟨1,[.inl 2],
 (.seq (.reg [] [.o 2 (.mv (.c (.i .i64 0)))] false [0] [])
 (.seq (.reg [] [.o 3 (.mv (.k 0)),
 .o 4 (.nc (.k 3)),
 .o 5 (.fa 3 (.k 4)),
 .o 6 (.ld false 1 .cp (.k 5)),
 .o 2 (.mv (.k 6))] false [2] [])
 .ret))⟩

def F_cell_Memory_Clock : F := ⟨1,[.inl 2],
 (.seq (.reg [] [.o 2 (.mv (.c (.i .u64 0)))] false [0] [])
 (.seq (.reg [] [.o 3 (.mv (.k 0)),
 .o 4 (.nc (.k 3)),
 .o 5 (.fa 1 (.k 4)),
 .o 6 (.ld false 1 .cp (.k 5)),
 .o 2 (.mv (.k 6))] false [2] [])
 .ret))⟩

def F_op_Into : F := ⟨2,[.inl 4],
 (.seq (.reg [] [.o 4 (.mv (.c (.i .i64 0)))] false [0,1] [])
 (.seq (.seq (.reg [] [.o 5 (.mv (.t 1)),
 .o 6 (.bin .leq (.k 5) (.c (.i .i64 0)))] false [0,1,6] [])
 (.cond 6 (.seq (.reg [] [.o 4 (.mv (.c (.i .i64 0)))] false [4] [])
 .ret)
 .skip))
 (.seq (.seq (.reg [] [.o 7 (.mv (.k 0)),
 .o 8 (.mv (.t 1)),
 .o 9 (.bin .rem (.k 7) (.k 8)),
 .o 0 (.mv (.k 9))] false [0,1] [])
 (.seq (.reg [] [.o 10 (.mv (.t 0)),
 .o 11 (.bin .lss (.k 10) (.c (.i .i64 0)))] false [0,1,11] [])
 (.cond 11 (.reg [] [.o 12 (.mv (.k 0)),
 .o 13 (.mv (.k 1)),
 .o 14 (.bin .add (.k 12) (.k 13)),
 .o 0 (.mv (.k 14))] false [0] [])
 .skip)))
 (.seq (.reg [] [.o 15 (.mv (.k 0)),
 .o 4 (.mv (.k 15))] false [4] [])
 .ret))))⟩

def F_op_Legal : F := ⟨2,[.inl 4],
 (.seq (.reg [] [.o 4 (.mv (.c (.i .i64 0)))] false [0,1] [])
 (.seq (.blk 0 (.seq (.reg [] [.o 6 (.mv (.t 0)),
 .o 7 (.bin .lss (.k 6) (.c (.i .i64 1))),
 .o 8 (.mv (.k 7)),
 .c 8 false 9 (.mv (.t 0)),
 .c 8 false 10 (.bin .gtr (.k 9) (.c (.i .i64 4))),
 .o 11 (.pick (.k 8) (.c (.b true)) (.k 10)),
 .o 5 (.mv (.k 11))] false [0,1,5] [])
 (.cond 5 (.seq (.reg [] [.o 4 (.mv (.c (.i .i64 6)))] false [4] [])
 .ret)
 (.seq (.reg [] [.o 13 (.mv (.t 1)),
 .o 14 (.bin .lss (.k 13) (.c (.i .i64 1))),
 .o 15 (.mv (.k 14)),
 .c 15 false 16 (.mv (.t 1)),
 .c 15 false 17 (.bin .gtr (.k 16) (.c (.i .i64 16))),
 .o 18 (.pick (.k 15) (.c (.b true)) (.k 17)),
 .o 19 (.mv (.k 18)),
 .c 19 false 20 (.mv (.k 0)),
 .c 19 false 21 (.bin .eql (.k 20) (.c (.i .i64 4))),
 .c 19 false 22 (.mv (.k 21)),
 .c 22 true 23 (.mv (.t 1)),
 .c 22 true 24 (.mv (.k 1)),
 .c 22 true 25 (.bin .sub (.k 24) (.c (.i .i64 1))),
 .c 22 true 26 (.bin .and (.k 23) (.k 25)),
 .c 22 true 27 (.bin .neq (.k 26) (.c (.i .i64 0))),
 .c 19 false 28 (.pick (.k 22) (.k 27) (.c (.b false))),
 .o 29 (.pick (.k 19) (.c (.b true)) (.k 28)),
 .o 12 (.mv (.k 29))] false [12] [])
 (.cond 12 (.seq (.reg [] [.o 4 (.mv (.c (.i .i64 5)))] false [4] [])
 .ret)
 .skip)))))
 (.seq (.reg [] [.o 4 (.mv (.c (.i .i64 0)))] false [4] [])
 .ret)))⟩

def F_pile_Item_Cmp : F := ⟨2,[.inl 4],
 (.seq (.reg [] [.o 2 (.bx (.k 0)),
 .o 3 (.bx (.k 1)),
 .o 4 (.mv (.c (.i .i64 0)))] false [2,3] [2,3])
 (.seq (.seq (.reg [] [.o 6 (.fa 0 (.t 2)),
 .o 7 (.ld false 1 .cp (.k 6)),
 .o 8 (.fa 0 (.t 3)),
 .o 9 (.ld false 1 .cp (.k 8)),
 .o 10 (.call n_real_Cmp [.k 7,.k 9]),
 .o 5 (.mv (.k 10))] false [2,3,5] [2,3])
 (.seq (.reg [] [.o 11 (.mv (.t 5)),
 .o 12 (.bin .neq (.k 11) (.c (.i .i64 0)))] false [2,3,5,12] [2,3])
 (.cond 12 (.seq (.reg [] [.o 13 (.mv (.k 5)),
 .o 4 (.mv (.k 13))] false [4] [])
 .ret)
 .skip)))
 (.seq (.blk 0 (.seq (.reg [] [.o 15 (.fa 1 (.t 2)),
 .o 16 (.ld false 1 .cp (.k 15)),
 .o 17 (.fa 1 (.t 3)),
 .o 18 (.ld false 1 .cp (.k 17)),
 .o 19 (.bin .lss (.k 16) (.k 18)),
 .o 14 (.mv (.k 19))] false [2,3,14] [2,3])
 (.cond 14 (.seq (.reg [] [.o 4 (.mv (.c (.i .i64 (-1))))] false [4] [])
 .ret)
 (.seq (.reg [] [.o 21 (.fa 1 (.k 2)),
 .o 22 (.ld false 1 .cp (.k 21)),
 .o 23 (.fa 1 (.k 3)),
 .o 24 (.ld false 1 .cp (.k 23)),
 .o 25 (.bin .gtr (.k 22) (.k 24)),
 .o 20 (.mv (.k 25))] false [20] [])
 (.cond 20 (.seq (.reg [] [.o 4 (.mv (.c (.i .i64 1)))] false [4] [])
 .ret)
 .skip)))))
 (.seq (.reg [] [.o 4 (.mv (.c (.i .i64 0)))] false [4] [])
 .ret))))⟩

def F_c_ref13_New : F := ⟨2,[.inr (4,true,5)],
 (.seq (.reg [] [.o 4 (.al ([.i .i64 0,.i .i64 0,.l .o 3 [],.l .x 17 [],.b false]))] false [0,1,4] [4])
 (.seq (.reg [] [.o 5 (.mv (.k 0)),
 .o 6 (.mv (.k 1)),
 .o 7 (.ms 17 168 (.a ([.i .i64 0,.i .u64 0,.i .i64 0,.i .i64 0,.i .i64 0,.i .i64 0,.i .i64 0,.i .i64 0,.i .i64 0,.i .i64 0,.b false,.i .i64 0,.i .i64 0,.i .i64 0,.l .o 2 [],.i .i64 0,.l .o 2 []])) (.c (.i .i64 6)) (.c (.i .i64 6))),
 .o 8 (.bd ([.i .i64 0,.i .i64 0,.l .o 3 [],.l .x 17 [],.b false]) [(0,1,.k 5),(1,1,.k 6),(3,1,.k 7)]),
 .s (.st 5 (.t 4) (.k 8))] false [4] [4])
 .ret))⟩

def F_c_ref13_Begin : F := ⟨3,[.inr (6,true,5),.inl 7],
 (.seq (.reg [.zz 2] [.o 3 (.bx (.k 0)),
 .o 5 (.bx (.k 2)),
 .o 6 (.al ([.i .i64 0,.i .i64 0,.l .o 3 [],.l .x 17 [],.b false])),
 .o 7 (.mv (.c (.i .i64 0)))] false [1,3,5,6] [3,5,6])
 (.seq (.seq (.reg [] [.o 9 (.mv (.t 1)),
 .o 10 (.bin .lss (.k 9) (.c (.i .i64 0))),
 .o 11 (.mv (.k 10)),
 .c 11 false 12 (.mv (.t 1)),
 .c 11 false 13 (.bin .gtr (.k 12) (.c (.i .i64 5))),
 .o 14 (.pick (.k 11) (.c (.b true)) (.k 13))] false [1,3,5,6,14] [3,5,6])
 (.cond 14 (.seq (.reg [] [.o 15 (.ld true 5 .tk (.k 3)),
 .s (.st 5 (.t 6) (.k 15)),
 .o 7 (.mv (.c (.i .i64 4)))] false [6,7] [6])
 .ret)
 .skip))
 (.seq (.seq (.reg [] [.o 16 (.fa 4 (.t 3)),
 .o 17 (.ld false 1 .cp (.k 16))] false [1,3,5,6,17] [3,5,6])
 (.cond 17 (.seq (.reg [] [.o 18 (.ld true 5 .tk (.k 3)),
 .s (.st 5 (.t 6) (.k 18)),
 .o 7 (.mv (.c (.i .i64 12)))] false [6,7] [6])
 .ret)
 .skip))
 (.seq (.seq (.reg [] [.o 19 (.fa 0 (.t 3)),
 .o 20 (.ld false 1 .cp (.k 19)),
 .o 21 (.fa 0 (.t 5)),
 .o 22 (.ld false 1 .cp (.k 21)),
 .o 23 (.fa 1 (.t 5)),
 .o 24 (.fa 1 (.k 23)),
 .o 25 (.ld false 1 .cp (.k 24)),
 .o 26 (.call n_c_ref06_Check [.k 20,.k 22,.k 25]),
 .o 8 (.mv (.k 26))] false [1,3,5,6,8] [3,5,6])
 (.seq (.reg [] [.o 27 (.mv (.t 8)),
 .o 28 (.bin .neq (.k 27) (.c (.i .i64 0)))] false [1,3,5,6,8,28] [3,5,6])
 (.cond 28 (.seq (.reg [] [.o 29 (.ld true 5 .tk (.k 3)),
 .o 30 (.mv (.k 8)),
 .s (.st 5 (.t 6) (.k 29)),
 .o 7 (.mv (.k 30))] false [6,7] [6])
 .ret)
 .skip)))
 (.seq (.seq (.reg [] [.o 31 (.fa 3 (.t 3)),
 .z 32 (.lda 1 (.k 31)) 1,
 .o 33 (.mv (.t 1)),
 .o 34 (.ia 17 none (.k 32) (.k 33)),
 .o 35 (.fa 0 (.k 34)),
 .o 36 (.ld false 1 .cp (.k 35)),
 .o 37 (.bin .neq (.k 36) (.c (.i .i64 0)))] false [1,3,5,6,37] [3,5,6])
 (.cond 37 (.seq (.reg [] [.o 38 (.ld true 5 .tk (.k 3)),
 .s (.st 5 (.t 6) (.k 38)),
 .o 7 (.mv (.c (.i .i64 11)))] false [6,7] [6])
 .ret)
 .skip))
 (.seq (.reg [] [.o 39 (.bs 17 0 (.a ([.i .i64 0,.i .u64 0,.i .i64 0,.i .i64 0,.i .i64 0,.i .i64 0,.i .i64 0,.i .i64 0,.i .i64 0,.i .i64 0,.b false,.i .i64 0,.i .i64 0,.i .i64 0,.l .o 2 [],.i .i64 0,.l .o 2 []])) []),
 .o 40 (.fa 3 (.t 3)),
 .z 41 (.lda 1 (.k 40)) 1,
 .o 42 (.app 17 168 (.k 39) (.k 41)),
 .o 43 (.fa 3 (.t 3)),
 .s (.st 1 (.k 43) (.k 42))] false [1,3,5,6] [3,5,6])
 (.seq (.reg [] [.o 44 (.fa 3 (.t 3)),
 .o 45 (.lda 1 (.k 44)),
 .o 46 (.mv (.k 1)),
 .o 47 (.ld true 17 .tk (.k 5)),
 .o 48 (.ia 17 none (.k 45) (.k 46)),
 .s (.st 17 (.k 48) (.k 47))] false [3,6] [3,6])
 (.seq (.reg [] [.o 49 (.ld true 5 .tk (.k 3)),
 .s (.st 5 (.t 6) (.k 49)),
 .o 7 (.mv (.c (.i .i64 0)))] false [6,7] [6])
 .ret))))))))⟩

def F_c_law06_Told : F := ⟨2,[.inr (4,true,17)],
 (.seq (.reg [] [.o 3 (.bx (.k 1)),
 .o 4 (.al ([.i .i64 0,.i .u64 0,.i .i64 0,.i .i64 0,.i .i64 0,.i .i64 0,.i .i64 0,.i .i64 0,.i .i64 0,.i .i64 0,.b false,.i .i64 0,.i .i64 0,.i .i64 0,.l .o 2 [],.i .i64 0,.l .o 2 []]))] false [0,3,4] [3,4])
 (.seq (.reg [] [.o 6 (.mv (.k 0)),
 .o 7 (.ld true 5 .cp (.t 3)),
 .o 8 (.call n_c_law06_Own [.k 6,.k 7]),
 .o 5 (.al ([.i .i64 0,.f .f64 0,.i .i64 0,.i .i64 0,.i .i64 0])),
 .s (.st 5 (.t 5) (.k 8))] false [3,4,5] [3,4,5])
 (.seq (.reg [] [.o 9 (.fa 0 (.t 5)),
 .o 10 (.ld false 1 .cp (.k 9)),
 .u 11 (.fa 1 (.t 3)) [0,1] 0,
 .u 12 (.fa 0 (.k 11)) [0,1] 0,
 .u 13 (.ld false 1 .cp (.k 12)) [0,1] 0,
 .u 14 (.fa 1 (.t 5)) [0,1,2,3,4] 0,
 .u 15 (.fa 1 (.k 14)) [0,1,2,3,4] 0,
 .u 16 (.ld false 1 .cp (.k 15)) [0,1,2,3,4] 0,
 .u 17 (.call n_c_ref04_Make [.k 13,.k 16]) [0,1] 0,
 .u 18 (.fa 3 (.t 3)) [0,1,2,3,4,5,6,7,8] 0,
 .u 19 (.ld false 1 .cp (.k 18)) [0,1,2,3,4,5,6,7,8] 0,
 .u 20 (.fa 4 (.t 3)) [0,1,2,3,4,5,6,7,8,9,10] 0,
 .u 21 (.ld false 1 .cp (.k 20)) [0,1,2,3,4,5,6,7,8,9,10] 0,
 .o 22 (.bd ([.i .i64 0,.i .u64 0,.i .i64 0,.i .i64 0,.i .i64 0,.i .i64 0,.i .i64 0,.i .i64 0,.i .i64 0,.i .i64 0,.b false,.i .i64 0,.i .i64 0,.i .i64 0,.l .o 2 [],.i .i64 0,.l .o 2 []]) [(0,1,.k 10),(1,2,.k 17),(3,1,.k 19),(4,1,.k 21)]),
 .s (.st 17 (.t 4) (.k 22))] true [4] [4])
 .ret)))⟩

def F_c_law16_Both_pick : F := ⟨2,[.inl 4],
 (.seq (.reg [] [.o 4 (.mv (.c (.b false)))] false [0,1] [])
 (.seq (.reg [] [.o 12 (.mv (.t 0)),
 .o 13 (.nc (.k 12)),
 .o 14 (.fa 0 (.k 13)),
 .o 15 (.ld false 1 .cp (.k 14)),
 .o 16 (.mv (.t 1)),
 .o 17 (.call n_scan_Runner_Pick [.k 15,.k 16]),
 .o 11 (.mv (.k 17)),
 .o 18 (.ex false 0 11),
 .o 19 (.ex false 1 11),
 .o 5 (.al ([.i .i64 0,.i .i64 0,.f .f64 0,.i .i64 0,.i .i64 0,.i .i64 0,.b false,.b false,.f .f64 0,.i .i64 0,.i .i64 0])),
 .s (.st 11 (.t 5) (.k 18)),
 .o 6 (.mv (.k 19))] false [0,1,5,6] [5])
 (.seq (.reg [] [.o 21 (.mv (.t 0)),
 .o 22 (.nc (.k 21)),
 .o 23 (.fa 1 (.k 22)),
 .o 24 (.ld true 18 .cp (.k 23)),
 .o 25 (.mv (.k 1)),
 .z 26 (.call n_c_ref16_Pick [.k 24,.k 25]) 1,
 .o 20 (.mv (.k 26)),
 .o 27 (.ex true 0 20),
 .o 28 (.ex false 1 20),
 .o 29 (.ex false 2 20),
 .o 30 (.ex false 3 20),
 .o 7 (.al ([.i .i64 0,.i .i64 0,.l .o 3 [],.l .x 17 [],.b false,.b false,.b false,.b false,.b false,.i .i64 0,.i .i64 0,.i .i64 0,.i .i64 0,.l .o 4 [],.b false,.l .o 4 [],.i .i64 0,.b false])),
 .o 9 (.al ([.b false,.i .u64 0,.i .i64 0,.i .i64 0])),
 .s (.st 18 (.t 7) (.k 27)),
 .o 8 (.mv (.k 28)),
 .s (.st 4 (.t 9) (.k 29)),
 .o 10 (.mv (.k 30))] false [0,5,6,7,8,9,10] [5,7,9])
 (.seq (.reg [] [.o 31 (.mv (.k 0)),
 .o 32 (.ld true 18 .tk (.k 7)),
 .o 33 (.nc (.k 31)),
 .o 34 (.fa 1 (.k 33)),
 .s (.st 18 (.k 34) (.k 32))] false [5,6,8,9,10] [5,9])
 (.seq (.seq (.reg [] [.o 35 (.mv (.t 8)),
 .o 36 (.bin .eql (.k 35) (.c (.i .i64 (-2))))] false [5,6,8,9,10,36] [5,9])
 (.cond 36 (.seq (.reg [] [.o 37 (.mv (.k 6)),
 .o 38 (.un .not (.k 37)),
 .o 39 (.mv (.k 38)),
 .c 39 true 40 (.ld true 11 .cp (.k 5)),
 .c 39 true 41 (.bd ([.i .i64 0,.i .i64 0,.f .f64 0,.i .i64 0,.i .i64 0,.i .i64 0,.b false,.b false,.f .f64 0,.i .i64 0,.i .i64 0]) []),
 .c 39 true 42 (.eqa false [.it,.it,.fl,.it,.it,.it,.bo,.bo,.fl,.it,.it] (.k 40) (.k 41)),
 .o 43 (.pick (.k 39) (.k 42) (.c (.b false))),
 .o 4 (.mv (.k 43))] false [4] [])
 .ret)
 .skip))
 (.seq (.reg [] [.o 44 (.mv (.k 6)),
 .o 45 (.mv (.k 44)),
 .c 45 true 46 (.fa 0 (.t 5)),
 .c 45 true 47 (.ld false 1 .cp (.k 46)),
 .c 45 true 48 (.mv (.k 8)),
 .c 45 true 49 (.bin .eql (.k 47) (.k 48)),
 .o 50 (.pick (.k 45) (.k 49) (.c (.b false))),
 .o 51 (.mv (.k 50)),
 .c 51 true 52 (.fa 6 (.t 5)),
 .c 51 true 53 (.ld false 1 .cp (.k 52)),
 .c 51 true 54 (.mv (.k 10)),
 .c 51 true 55 (.eq false .bo (.k 53) (.k 54)),
 .o 56 (.pick (.k 51) (.k 55) (.c (.b false))),
 .o 57 (.mv (.k 56)),
 .c 57 true 58 (.fa 7 (.k 5)),
 .c 57 true 59 (.ld true 4 .cp (.k 58)),
 .c 57 true 60 (.ld true 4 .cp (.k 9)),
 .c 57 true 61 (.call n_c_law06_IsAnswer [.k 59,.k 60]),
 .c 57 true 62 (.bin .eql (.k 61) (.c (.i .i64 0))),
 .o 63 (.pick (.k 57) (.k 62) (.c (.b false))),
 .o 4 (.mv (.k 63))] false [4] [])
 .ret))))))⟩

def F_scan_Runner_Close : F := ⟨1,[],
 (.seq (.seq (.reg [] [.o 2 (.mv (.t 0)),
 .o 3 (.call n_scan_Runner_Quiet [.k 2])] false [0,3] [])
 (.cond 3 (.seq (.reg [] [.o 4 (.mv (.k 0)),
 .o 5 (.nc (.k 4)),
 .o 6 (.fa 1 (.k 5)),
 .o 7 (.ld false 1 .cp (.k 6)),
 .o 8 (.nc (.k 7)),
 .o 9 (.fa 5 (.k 8)),
 .s (.st 1 (.k 9) (.c (.b true)))] false [] [])
 .ret)
 .skip))
 (.reg [] [.o 10 (.mv (.k 0)),
 .o 11 (.nc (.k 10)),
 .o 12 (.fa 0 (.k 11)),
 .o 13 (.ld false 1 .cp (.k 12)),
 .o 14 (.nc (.k 13)),
 .o 15 (.fa 0 (.k 14)),
 .o 16 (.ld false 1 .cp (.k 15)),
 .o 17 (.call n_engine_Engine_Close [.k 16])] false [] []))⟩

def F_c_ref16_Gate : F := ⟨2,[.inr (4,true,18)],
 (.seq (.reg [] [.o 2 (.bx (.k 0)),
 .o 4 (.al ([.i .i64 0,.i .i64 0,.l .o 3 [],.l .x 17 [],.b false,.b false,.b false,.b false,.b false,.i .i64 0,.i .i64 0,.i .i64 0,.i .i64 0,.l .o 4 [],.b false,.l .o 4 [],.i .i64 0,.b false]))] false [1,2,4] [2,4])
 (.seq (.seq (.reg [] [.o 5 (.fa 5 (.t 2)),
 .o 6 (.ld false 1 .cp (.k 5)),
 .o 7 (.mv (.k 6)),
 .c 7 true 8 (.fa 7 (.t 2)),
 .c 7 true 9 (.ld false 1 .cp (.k 8)),
 .o 10 (.pick (.k 7) (.k 9) (.c (.b false)))] false [1,2,4,10] [2,4])
 (.cond 10 (.seq (.reg [] [.o 11 (.mv (.k 1)),
 .o 12 (.fa 8 (.t 2)),
 .s (.st 1 (.k 12) (.k 11))] false [2,4] [2,4])
 (.seq (.reg [] [.o 13 (.ld true 18 .tk (.k 2)),
 .s (.st 18 (.t 4) (.k 13))] false [4] [4])
 .ret))
 .skip))
 (.seq (.reg [] [.o 14 (.mv (.k 1)),
 .o 15 (.fa 0 (.t 2)),
 .o 16 (.fa 4 (.k 15)),
 .s (.st 1 (.k 16) (.k 14))] false [2,4] [2,4])
 (.seq (.reg [] [.o 17 (.ld true 18 .tk (.k 2)),
 .s (.st 18 (.t 4) (.k 17))] false [4] [4])
 .ret))))⟩

def F_c_ref16_Start : F := ⟨2,[.inr (4,true,18),.inl 5],
 (.seq (.reg [] [.o 2 (.bx (.k 0)),
 .o 4 (.al ([.i .i64 0,.i .i64 0,.l .o 3 [],.l .x 17 [],.b false,.b false,.b false,.b false,.b false,.i .i64 0,.i .i64 0,.i .i64 0,.i .i64 0,.l .o 4 [],.b false,.l .o 4 [],.i .i64 0,.b false])),
 .o 5 (.mv (.c (.i .i64 0)))] false [1,2,4] [2,4])
 (.seq (.seq (.reg [] [.o 6 (.mv (.t 1)),
 .o 7 (.bin .lss (.k 6) (.c (.i .i64 1))),
 .o 8 (.mv (.k 7)),
 .c 8 false 9 (.mv (.t 1)),
 .c 8 false 10 (.bin .gtr (.k 9) (.c (.i .i64 8))),
 .o 11 (.pick (.k 8) (.c (.b true)) (.k 10))] false [1,2,4,11] [2,4])
 (.cond 11 (.seq (.reg [] [.o 12 (.ld true 18 .tk (.k 2)),
 .s (.st 18 (.t 4) (.k 12)),
 .o 5 (.mv (.c (.i .i64 4)))] false [4,5] [4])
 .ret)
 .skip))
 (.seq (.seq (.reg [] [.o 13 (.fa 5 (.t 2)),
 .o 14 (.ld false 1 .cp (.k 13)),
 .o 15 (.mv (.k 14)),
 .c 15 false 16 (.fa 14 (.t 2)),
 .c 15 false 17 (.ld false 1 .cp (.k 16)),
 .o 18 (.pick (.k 15) (.c (.b true)) (.k 17))] false [1,2,4,18] [2,4])
 (.cond 18 (.seq (.reg [] [.o 19 (.ld true 18 .tk (.k 2)),
 .s (.st 18 (.t 4) (.k 19)),
 .o 5 (.mv (.c (.i .i64 11)))] false [4,5] [4])
 .ret)
 .skip))
 (.seq (.reg [] [.z 20 (.bs 4 0 (.a ([.i .i64 0,.i .i64 0,.i .i64 0,.l .o 2 []])) []) 1,
 .o 21 (.fa 5 (.t 2)),
 .s (.st 1 (.k 21) (.c (.b true))),
 .o 22 (.fa 6 (.t 2)),
 .s (.st 1 (.k 22) (.c (.b false))),
 .o 23 (.fa 7 (.t 2)),
 .s (.st 1 (.k 23) (.c (.b false))),
 .o 24 (.fa 11 (.t 2)),
 .s (.st 1 (.k 24) (.c (.i .i64 0))),
 .o 25 (.fa 13 (.t 2)),
 .s (.st 1 (.k 25) (.k 20))] false [1,2,4] [2,4])
 (.seq (.reg [] [.o 26 (.mv (.t 1)),
 .o 27 (.mv (.k 1)),
 .o 28 (.fa 9 (.t 2)),
 .s (.st 1 (.k 28) (.k 26)),
 .o 29 (.fa 10 (.t 2)),
 .s (.st 1 (.k 29) (.k 27))] false [2,4] [2,4])
 (.seq (.reg [] [.o 30 (.ld true 18 .tk (.k 2)),
 .s (.st 18 (.t 4) (.k 30)),
 .o 5 (.mv (.c (.i .i64 0)))] false [4,5] [4])
 .ret))))))⟩

def F_c_law16_IsShot : F := ⟨2,[.inl 4],
 (.seq (.reg [.zz 0,.zz 1] [.o 2 (.bx (.k 0)),
 .o 3 (.bx (.k 1)),
 .o 4 (.mv (.c (.i .i64 0)))] false [2,3] [2,3])
 (.seq (.seq (.reg [] [.o 7 (.fa 3 (.t 2)),
 .o 8 (.ld false 1 .cp (.k 7)),
 .o 9 (.fa 1 (.t 3)),
 .o 10 (.ld false 1 .cp (.k 9)),
 .o 11 (.bin .neq (.k 8) (.k 10)),
 .o 12 (.mv (.k 11)),
 .c 12 false 13 (.fa 4 (.t 2)),
 .c 12 false 14 (.ld false 1 .cp (.k 13)),
 .c 12 false 15 (.fa 2 (.t 3)),
 .c 12 false 16 (.ld false 1 .cp (.k 15)),
 .c 12 false 17 (.eq true .bo (.k 14) (.k 16)),
 .o 18 (.pick (.k 12) (.c (.b true)) (.k 17)),
 .o 19 (.mv (.k 18)),
 .c 19 false 20 (.fa 2 (.t 2)),
 .c 19 false 21 (.ld false 1 .cp (.k 20)),
 .c 19 false 22 (.len false (.k 21)),
 .c 19 false 23 (.fa 0 (.t 3)),
 .c 19 false 24 (.ld false 1 .cp (.k 23)),
 .c 19 false 25 (.len false (.k 24)),
 .c 19 false 26 (.bin .neq (.k 22) (.k 25)),
 .o 27 (.pick (.k 19) (.c (.b true)) (.k 26))] false [2,3,27] [2,3])
 (.cond 27 (.seq (.reg [] [.o 4 (.mv (.c (.i .i64 (-1))))] false [4] [])
 .ret)
 .skip))
 (.seq (.seq (.reg [] [.o 28 (.fa 0 (.k 3)),
 .o 29 (.ld false 1 .tk (.k 28)),
 .o 30 (.len false (.t 29)),
 .o 31 (.mv (.c (.i .i64 0)))] false [2,29,30,31] [2])
 (.blk 0 (.loop (.seq (.reg [] [.o 32 (.bin .lss (.t 31) (.t 30))] false [2,29,30,31,32] [2])
 (.seq (.cond 32 .skip
 (.exit 0))
 (.seq (.blk 1 (.seq (.reg [] [.o 33 (.mv (.t 31)),
 .o 34 (.ia 4 none (.t 29) (.t 31)),
 .o 35 (.ld true 4 .cp (.k 34)),
 .o 6 (.al ([.i .i64 0,.i .i64 0,.i .i64 0,.l .o 2 []])),
 .o 5 (.mv (.k 33)),
 .s (.st 4 (.t 6) (.k 35))] false [2,5,6,29,30,31] [2,6])
 (.seq (.reg [] [.o 36 (.fa 2 (.t 2)),
 .o 37 (.ld false 1 .cp (.k 36)),
 .u 38 (.mv (.t 5)) [0,1] 0,
 .o 39 (.ia 4 none (.k 37) (.k 38)),
 .o 40 (.fa 0 (.k 39)),
 .o 41 (.ld false 1 .cp (.k 40)),
 .u 42 (.fa 0 (.t 6)) [0,1,2,3,4,5] 0,
 .u 43 (.ld false 1 .cp (.k 42)) [0,1,2,3,4,5] 0,
 .o 44 (.bin .neq (.k 41) (.k 43)),
 .o 45 (.mv (.k 44)),
 .c 45 false 46 (.fa 2 (.t 2)),
 .c 45 false 47 (.ld false 1 .cp (.k 46)),
 ⟨some 48,some (45,false),.mv (.t 5),[10,11],0⟩,
 .c 45 false 49 (.ia 4 none (.k 47) (.k 48)),
 .c 45 false 50 (.fa 1 (.k 49)),
 .c 45 false 51 (.fa 0 (.k 50)),
 .c 45 false 52 (.ld false 1 .cp (.k 51)),
 ⟨some 53,some (45,false),.fa 1 (.t 6),[10,11,12,13,14,15,16],0⟩,
 ⟨some 54,some (45,false),.ld false 1 .cp (.k 53),[10,11,12,13,14,15,16],0⟩,
 ⟨some 55,some (45,false),.cv (.int .u64) (.k 54),[10,11,12,13,14,15,16],0⟩,
 .c 45 false 56 (.bin .neq (.k 52) (.k 55)),
 .o 57 (.pick (.t 45) (.c (.b true)) (.k 56)),
 .o 58 (.mv (.k 57)),
 .c 58 false 59 (.fa 2 (.t 2)),
 .c 58 false 60 (.ld false 1 .cp (.k 59)),
 ⟨some 61,some (58,false),.mv (.t 5),[23,24],0⟩,
 .c 58 false 62 (.ia 4 none (.k 60) (.k 61)),
 .c 58 false 63 (.fa 1 (.k 62)),
 .c 58 false 64 (.fa 1 (.k 63)),
 ⟨some 65,some (58,false),.ld true 2 .cp (.k 64),[],2⟩,
 ⟨some 66,some (58,false),.fa 2 (.t 6),[23,24,25,26,27,28,29],0⟩,
 ⟨some 67,some (58,false),.ld true 2 .cp (.k 66),[23,24,25,26,27,28,29],2⟩,
 .c 58 false 68 (.call n_c_law05_Is [.k 65,.k 67]),
 .c 58 false 69 (.bin .neq (.k 68) (.c (.i .i64 0))),
 .o 70 (.pick (.t 58) (.c (.b true)) (.k 69))] true [2,29,30,31,70] [2])
 (.cond 70 (.seq (.reg [] [.o 4 (.mv (.c (.i .i64 (-1))))] false [4] [])
 .ret)
 .skip))))
 (.reg [] [.o 71 (.bin .add (.k 31) (.c (.i .i64 1))),
 .o 31 (.mv (.k 71))] false [2,29,30,31] [2])))))))
 (.seq (.reg [] [.o 4 (.mv (.c (.i .i64 0)))] false [4] [])
 .ret))))⟩

def F_cell_Memory_Len : F := ⟨1,[.inl 2],
 (.seq (.reg [] [.o 2 (.mv (.c (.i .i64 0)))] false [0] [])
 (.seq (.reg [] [.o 3 (.mv (.k 0)),
 .o 4 (.nc (.k 3)),
 .o 5 (.fa 0 (.k 4)),
 .z 6 (.lda 1 (.k 5)) 1,
 .o 7 (.len false (.k 6)),
 .o 2 (.mv (.k 7))] false [2] [])
 .ret))⟩

def F_c_ref05_Len : F := ⟨1,[.inl 2],
 (.seq (.reg [.zz 0] [.o 1 (.bx (.k 0)),
 .o 2 (.mv (.c (.i .i64 0)))] false [1] [1])
 (.seq (.reg [] [.o 3 (.mv (.c (.i .i64 0)))] false [1,3] [1])
 (.seq (.seq (.reg [] [.o 6 (.fa 0 (.k 1)),
 .o 7 (.ld false 1 .tk (.k 6)),
 .o 8 (.len false (.t 7)),
 .o 9 (.mv (.c (.i .i64 0)))] false [3,7,8,9] [])
 (.blk 0 (.loop (.seq (.reg [] [.o 10 (.bin .lss (.t 9) (.t 8))] false [3,7,8,9,10] [])
 (.seq (.cond 10 .skip
 (.exit 0))
 (.seq (.blk 1 (.seq (.reg [] [.o 11 (.ia 3 none (.t 7) (.t 9)),
 .o 12 (.ld true 3 .cp (.k 11)),
 .o 5 (.al ([.i .i64 0,.i .i64 0,.l .o 2 []])),
 .s (.st 3 (.t 5) (.k 12))] false [3,5,7,8,9] [5])
 (.reg [] [.o 13 (.mv (.k 3)),
 .o 14 (.fa 0 (.k 5)),
 .o 15 (.ld false 1 .cp (.k 14)),
 .o 16 (.bin .add (.k 15) (.c (.i .i64 1))),
 .o 17 (.mx true [.k 13,.k 16]),
 .o 3 (.mv (.k 17))] false [3,7,8,9] [])))
 (.reg [] [.o 18 (.bin .add (.k 9) (.c (.i .i64 1))),
 .o 9 (.mv (.k 18))] false [3,7,8,9] [])))))))
 (.seq (.reg [] [.o 19 (.mv (.k 3)),
 .o 2 (.mv (.k 19))] false [2] [])
 .ret))))⟩

def F_c_ref05_Read : F := ⟨2,[.inl 4,.inr (5,true,2)],
 (.seq (.reg [.zz 0] [.o 2 (.bx (.k 0)),
 .o 4 (.mv (.c (.i .i64 0))),
 .o 5 (.al ([.i .i64 0,.l .o 2 []]))] false [1,2,5] [2,5])
 (.seq (.reg [] [.o 6 (.mv (.c (.i .i64 0)))] false [1,2,5,6] [2,5])
 (.seq (.reg [] [.o 10 (.bd ([.i .i64 0,.l .o 2 []]) []),
 .o 7 (.al ([.i .i64 0,.l .o 2 []])),
 .s (.st 2 (.t 7) (.k 10))] false [1,2,5,6,7] [2,5,7])
 (.seq (.seq (.reg [] [.o 11 (.fa 0 (.k 2)),
 .o 12 (.ld false 1 .tk (.k 11)),
 .o 13 (.len false (.t 12)),
 .o 14 (.mv (.c (.i .i64 0)))] false [1,5,6,7,12,13,14] [5,7])
 (.blk 0 (.loop (.seq (.reg [] [.o 15 (.bin .lss (.t 14) (.t 13))] false [1,5,6,7,12,13,14,15] [5,7])
 (.seq (.cond 15 .skip
 (.exit 0))
 (.seq (.blk 1 (.seq (.reg [] [.o 16 (.mv (.t 14)),
 .o 17 (.ia 3 none (.t 12) (.t 14)),
 .o 18 (.ld true 3 .cp (.k 17)),
 .o 9 (.al ([.i .i64 0,.i .i64 0,.l .o 2 []])),
 .o 8 (.mv (.k 16)),
 .s (.st 3 (.t 9) (.k 18))] false [1,5,6,7,8,9,12,13,14] [5,7,9])
 (.seq (.reg [] [.o 19 (.fa 0 (.t 9)),
 .o 20 (.ld false 1 .cp (.k 19)),
 .o 21 (.mv (.t 1)),
 .o 22 (.bin .eql (.k 20) (.k 21))] false [1,5,6,7,8,9,12,13,14,22] [5,7,9])
 (.cond 22 (.reg [] [.o 23 (.mv (.k 8)),
 .o 24 (.bin .add (.k 23) (.c (.i .i64 1))),
 .u 25 (.fa 1 (.k 9)) [0,1] 0,
 .u 26 (.ld true 2 .cp (.k 25)) [0,1] 0,
 .u 6 (.mv (.k 24)) [2,3] 0,
 .s (.st 2 (.t 7) (.k 26))] true [1,5,6,7,12,13,14] [5,7])
 .skip))))
 (.reg [] [.o 27 (.bin .add (.k 14) (.c (.i .i64 1))),
 .o 14 (.mv (.k 27))] false [1,5,6,7,12,13,14] [5,7])))))))
 (.seq (.reg [] [.o 28 (.mv (.k 6)),
 .u 29 (.ld true 2 .cp (.k 7)) [0] 0,
 .u 4 (.mv (.k 28)) [1] 0,
 .s (.st 2 (.t 5) (.k 29))] true [4,5] [5])
 .ret)))))⟩

def F_cell_Memory_Read : F := ⟨2,[.inr (4,true,3)],
 (.seq (.reg [] [.o 4 (.al ([.i .u64 0,.i .i64 0,.l .o 2 []]))] false [0,1,4] [4])
 (.seq (.seq (.reg [] [.o 6 (.mv (.t 1)),
 .o 7 (.bin .lss (.k 6) (.c (.i .i64 0))),
 .o 8 (.mv (.k 7)),
 .c 8 false 9 (.mv (.t 1)),
 .c 8 false 10 (.mv (.t 0)),
 .c 8 false 11 (.nc (.k 10)),
 .c 8 false 12 (.fa 0 (.k 11)),
 ⟨some 13,some (8,false),.lda 1 (.k 12),[],1⟩,
 .c 8 false 14 (.len false (.k 13)),
 .c 8 false 15 (.bin .geq (.k 9) (.k 14)),
 .o 16 (.pick (.k 8) (.c (.b true)) (.k 15))] false [0,1,4,16] [4])
 (.cond 16 (.seq (.reg [] [.o 17 (.bd ([.i .u64 0,.i .i64 0,.l .o 2 []]) []),
 .s (.st 3 (.t 4) (.k 17))] false [4] [4])
 .ret)
 .skip))
 (.seq (.reg [] [.o 18 (.mv (.k 0)),
 .o 19 (.nc (.k 18)),
 .o 20 (.fa 0 (.k 19)),
 .z 21 (.lda 1 (.k 20)) 1,
 .o 22 (.mv (.k 1)),
 .o 23 (.ia 3 none (.k 21) (.k 22)),
 .o 24 (.ld true 3 .cp (.k 23)),
 .o 5 (.al ([.i .u64 0,.i .i64 0,.l .o 2 []])),
 .s (.st 3 (.t 5) (.k 24))] false [4,5] [4,5])
 (.seq (.reg [] [.o 25 (.fa 0 (.t 5)),
 .o 26 (.ld false 1 .cp (.k 25)),
 .u 27 (.fa 1 (.t 5)) [0,1] 0,
 .u 28 (.ld true 2 .cp (.k 27)) [0,1] 2,
 .u 29 (.call n_cell_Value_Clone [.k 28]) [0,1] 0,
 .o 30 (.bd ([.i .u64 0,.i .i64 0,.l .o 2 []]) [(0,1,.k 26),(1,2,.k 29)]),
 .s (.st 3 (.t 4) (.k 30))] true [4] [4])
 .ret))))⟩

def F_c_law05_Is : F := ⟨2,[.inl 4],
 (.seq (.reg [.zz 0,.zz 1] [.o 2 (.bx (.k 0)),
 .o 3 (.bx (.k 1)),
 .o 4 (.mv (.c (.i .i64 0)))] false [2,3] [2,3])
 (.seq (.seq (.reg [] [.o 5 (.fa 0 (.t 2)),
 .o 6 (.ld false 1 .cp (.k 5)),
 .o 7 (.fa 0 (.t 3)),
 .o 8 (.ld false 1 .cp (.k 7)),
 .o 9 (.bin .neq (.k 6) (.k 8))] false [2,3,9] [2,3])
 (.cond 9 (.seq (.reg [] [.o 4 (.mv (.c (.i .i64 (-1))))] false [4] [])
 .ret)
 .skip))
 (.seq (.reg [] [.o 10 (.fa 1 (.k 2)),
 .z 11 (.ld false 1 .tk (.k 10)) 2,
 .o 12 (.fa 1 (.k 3)),
 .z 13 (.ld false 1 .tk (.k 12)) 2,
 .o 14 (.call n_c_law04_Are [.k 11,.k 13]),
 .o 4 (.mv (.k 14))] false [4] [])
 .ret)))⟩

def F_engine_Engine_Open : F := ⟨1,[],
 (.reg [] [.o 2 (.mv (.k 0)),
 .o 3 (.nc (.k 2)),
 .o 4 (.fa 10 (.k 3)),
 .s (.st 1 (.k 4) (.c (.b false)))] false [] [])⟩

def F_history_Recorder_Pick : F := ⟨2,[.inr (4,true,11),.inl 5],
 (.seq (.reg [] [.o 4 (.al ([.i .i64 0,.i .i64 0,.f .f64 0,.i .i64 0,.i .i64 0,.i .i64 0,.b false,.b false,.f .f64 0,.i .i64 0,.i .i64 0])),
 .o 5 (.mv (.c (.b false)))] false [0,1,4] [4])
 (.seq (.reg [] [.o 10 (.mv (.t 0)),
 .o 11 (.nc (.k 10)),
 .o 12 (.fa 0 (.k 11)),
 .o 13 (.ld false 1 .cp (.k 12)),
 .o 14 (.mv (.k 1)),
 .o 15 (.call n_engine_Engine_Pick [.k 13,.k 14]),
 .o 9 (.mv (.k 15)),
 .o 16 (.ex false 0 9),
 .o 17 (.ex false 1 9),
 .o 6 (.al ([.i .i64 0,.i .i64 0,.f .f64 0,.i .i64 0,.i .i64 0,.i .i64 0,.b false,.b false,.f .f64 0,.i .i64 0,.i .i64 0])),
 .s (.st 11 (.t 6) (.k 16)),
 .o 7 (.mv (.k 17))] false [0,4,6,7] [4,6])
 (.seq (.seq (.reg [] [.o 18 (.mv (.t 0)),
 .u 19 (.fa 0 (.t 6)) [0] 0,
 .u 20 (.ld false 1 .cp (.k 19)) [0] 0,
 .u 21 (.nc (.k 18)) [1,2] 0,
 .u 22 (.fa 2 (.k 21)) [1,2] 0,
 .o 23 (.ia 1 (some 6) (.k 22) (.k 20)),
 .o 24 (.ld false 1 .cp (.k 23)),
 .o 8 (.mv (.k 24))] true [0,4,6,7,8] [4,6])
 (.seq (.reg [] [.o 25 (.mv (.t 7)),
 .o 26 (.mv (.k 25)),
 .c 26 true 27 (.fa 6 (.t 6)),
 .c 26 true 28 (.ld false 1 .cp (.k 27)),
 .o 29 (.pick (.k 26) (.k 28) (.c (.b false))),
 .o 30 (.mv (.k 29)),
 .c 30 true 31 (.mv (.t 8)),
 .c 30 true 32 (.bin .gtr (.k 31) (.c (.i .i64 0))),
 .o 33 (.pick (.k 30) (.k 32) (.c (.b false)))] false [0,4,6,7,8,33] [4,6])
 (.cond 33 (.seq (.reg [] [.o 34 (.mv (.t 0)),
 .o 35 (.nc (.k 34)),
 .o 36 (.fa 1 (.k 35)),
 .o 37 (.lda 1 (.k 36)),
 .u 38 (.mv (.t 8)) [0,1,2,3] 0,
 .u 39 (.bin .sub (.k 38) (.c (.i .i64 1))) [0,1,2,3] 0,
 .u 40 (.mv (.t 0)) [0,1,2,3,4,5] 0,
 .u 41 (.nc (.k 40)) [0,1,2,3,4,5] 0,
 .u 42 (.fa 1 (.k 41)) [0,1,2,3,4,5] 0,
 .u 43 (.lda 1 (.k 42)) [0,1,2,3,4,5] 0,
 .u 44 (.mv (.t 8)) [0,1,2,3,4,5,6,7,8,9] 0,
 .u 45 (.bin .sub (.k 44) (.c (.i .i64 1))) [0,1,2,3,4,5,6,7,8,9] 0,
 .u 46 (.mv (.t 0)) [0,1,2,3,4,5,6,7,8,9,10,11] 0,
 .u 47 (.nc (.k 46)) [0,1,2,3,4,5,6,7,8,9,10,11] 0,
 .u 48 (.fa 0 (.k 47)) [0,1,2,3,4,5,6,7,8,9,10,11] 0,
 .u 49 (.ld false 1 .cp (.k 48)) [0,1,2,3,4,5,6,7,8,9,10,11] 0,
 .u 50 (.callr n_engine_Engine_Steps [.k 49] (.t 0)) [0,1,2,3,4,5,6,7,8,9,10,11] 0,
 .u 51 (.bin .sub (.k 50) (.c (.i .i64 1))) [0,1,2,3,4,5,6,7,8,9,10,11] 0,
 .u 52 (.fa 7 (.t 6)) [0,1,2,3,4,5,6,7,8,9,10,11,12,13,14,15,16,17] 0,
 .u 53 (.ld true 4 .cp (.k 52)) [0,1,2,3,4,5,6,7,8,9,10,11,12,13,14,15,16,17] 0,
 .u 54 (.ia 12 none (.k 37) (.k 39)) [10,11,18,19] 0,
 .u 55 (.fa 7 (.k 54)) [10,11,18,19] 0,
 ⟨none,none,.st 1 (.k 55) (.k 51),[10,11,18,19],0⟩,
 .o 56 (.ia 12 none (.k 43) (.k 45)),
 .o 57 (.fa 8 (.k 56)),
 .s (.st 4 (.k 57) (.k 53))] true [0,4,6,7] [4,6])
 (.reg [] [.o 58 (.mv (.k 0)),
 .u 59 (.fa 0 (.t 6)) [0] 0,
 .u 60 (.ld false 1 .cp (.k 59)) [0] 0,
 .u 61 (.nc (.k 58)) [1,2] 0,
 .u 62 (.fa 2 (.k 61)) [1,2] 0,
 .o 63 (.ia 1 (some 6) (.k 62) (.k 60)),
 .s (.st 1 (.k 63) (.c (.i .i64 0)))] true [4,6,7] [4,6]))
 .skip)))
 (.seq (.reg [] [.o 64 (.ld true 11 .cp (.k 6)),
 .o 65 (.mv (.k 7)),
 .s (.st 11 (.t 4) (.k 64)),
 .o 5 (.mv (.k 65))] false [4,5] [4])
 .ret))))⟩

def F_scan_Runner_step : F := ⟨2,[],
 (.seq (.reg [] [.o 9 (.mv (.t 0)),
 .o 10 (.nc (.k 9)),
 .o 11 (.fa 1 (.k 10)),
 .o 12 (.ld false 1 .cp (.k 11)),
 .o 4 (.mv (.t 12))] false [0,1,4,12] [])
 (.blk 0 (.seq (.reg [] [.o 33 (.mv (.t 4)),
 .o 34 (.nc (.k 33)),
 .o 35 (.fa 4 (.k 34)),
 .o 36 (.ld false 1 .cp (.k 35)),
 .o 37 (.mv (.k 36)),
 .c 37 true 38 (.mv (.k 1)),
 .c 37 true 39 (.bin .gtr (.k 38) (.c (.i .i64 0))),
 .o 40 (.pick (.k 37) (.k 39) (.c (.b false))),
 .o 32 (.mv (.k 40))] false [0,4,12,32] [])
 (.cond 32 .skip
 (.seq (.reg [] [.o 42 (.mv (.t 4)),
 .o 43 (.nc (.k 42)),
 .o 44 (.fa 3 (.k 43)),
 .o 45 (.ld false 1 .cp (.k 44)),
 .o 46 (.bin .lss (.k 45) (.c (.i .i64 0))),
 .o 41 (.mv (.k 46))] false [0,4,12,41] [])
 (.cond 41 (.seq (.reg [] [.o 48 (.mv (.t 0)),
 .o 49 (.mv (.t 4)),
 .o 50 (.nc (.k 49)),
 .o 51 (.fa 2 (.k 50)),
 .o 52 (.ld false 1 .cp (.k 51)),
 .o 53 (.len false (.k 52)),
 .o 54 (.call n_scan_Runner_cells [.k 48,.k 53]),
 .o 47 (.mv (.k 54)),
 .o 55 (.ex false 0 47),
 .o 56 (.ex false 1 47),
 .o 5 (.mv (.k 55)),
 .o 6 (.mv (.k 56))] false [0,4,5,12] [])
 (.seq (.reg [] [.o 57 (.mv (.t 4)),
 .u 58 (.mv (.t 4)) [0] 0,
 .u 59 (.nc (.k 58)) [0] 0,
 .u 60 (.fa 2 (.k 59)) [0] 0,
 .u 61 (.ld false 1 .tk (.k 60)) [0] 0,
 .u 62 (.mv (.t 5)) [0,1,2,3,4] 0,
 .u 63 (.mv (.t 0)) [0,1,2,3,4,5] 0,
 .u 64 (.nc (.k 63)) [0,1,2,3,4,5] 0,
 .u 65 (.fa 0 (.k 64)) [0,1,2,3,4,5] 0,
 .u 66 (.ld false 1 .cp (.k 65)) [0,1,2,3,4,5] 0,
 .u 67 (.nc (.k 66)) [0,1,2,3,4,5] 0,
 .u 68 (.fa 0 (.k 67)) [0,1,2,3,4,5] 0,
 .u 69 (.ld false 1 .cp (.k 68)) [0,1,2,3,4,5] 0,
 .u 70 (.callr n_engine_Engine_Memory [.k 69] (.t 12)) [0,1,2,3,4,5] 0,
 .u 71 (.mv (.t 5)) [0,1,2,3,4,5,6,7,8,9,10,11,12,13] 0,
 .u 72 (.callr n_cell_Memory_Read [.k 70,.k 71] (.t 12)) [0,1,2,3,4,5] 0,
 .u 73 (.bd ([.i .i64 0,.i .u64 0,.i .i64 0,.l .o 2 []]) [(0,1,.k 62),(1,3,.k 72)]) [0,1,2,3,4] 0,
 .u 74 (.bs 4 1 (.a ([.i .i64 0,.i .u64 0,.i .i64 0,.l .o 2 []])) [(0,.k 73)]) [0,1,2,3,4] 0,
 .u 75 (.app 4 48 (.k 61) (.k 74)) [0] 1,
 .o 76 (.nc (.k 57)),
 .o 77 (.fa 2 (.k 76)),
 .s (.st 1 (.k 77) (.k 75))] true [0,4] [])
 (.seq (.reg [] [.o 79 (.mv (.t 0)),
 .o 80 (.mv (.t 4)),
 .o 81 (.nc (.k 80)),
 .o 82 (.fa 2 (.k 81)),
 .o 83 (.ld false 1 .cp (.k 82)),
 .o 84 (.len false (.k 83)),
 .o 85 (.call n_scan_Runner_cells [.k 79,.k 84]),
 .o 78 (.mv (.k 85)),
 .o 86 (.ex false 0 78),
 .o 87 (.ex false 1 78),
 .o 7 (.mv (.k 86)),
 .o 8 (.mv (.k 87))] false [0,4,8] [])
 (.seq (.reg [] [.o 88 (.mv (.k 8)),
 .o 89 (.un .not (.k 88))] false [0,4,89] [])
 (.cond 89 (.seq (.reg [] [.o 90 (.mv (.t 4)),
 .o 91 (.nc (.k 90)),
 .o 92 (.fa 3 (.k 91)),
 .s (.st 1 (.k 92) (.c (.i .i64 0)))] false [0,4] [])
 (.seq (.reg [] [.o 93 (.mv (.k 4)),
 .o 94 (.nc (.k 93)),
 .o 95 (.fa 4 (.k 94)),
 .o 96 (.ld false 1 .cp (.k 95))] false [0,96] [])
 (.cond 96 (.reg [] [.o 97 (.mv (.k 0)),
 .o 98 (.call n_scan_Runner_done [.k 97])] false [] [])
 .skip)))
 .skip)))))
 (.seq (.reg [] [.o 100 (.mv (.t 0)),
 .o 101 (.nc (.k 100)),
 .o 102 (.fa 0 (.k 101)),
 .o 103 (.ld false 1 .cp (.k 102)),
 .o 104 (.nc (.k 103)),
 .o 105 (.fa 0 (.k 104)),
 .o 106 (.ld false 1 .cp (.k 105)),
 .o 107 (.call n_engine_Engine_Memory [.k 106]),
 .u 108 (.mv (.t 4)) [0,1,2,3,4,5,6,7] 0,
 .u 109 (.nc (.k 108)) [0,1,2,3,4,5,6,7] 0,
 .u 110 (.fa 2 (.k 109)) [0,1,2,3,4,5,6,7] 0,
 .u 111 (.ld false 1 .cp (.k 110)) [0,1,2,3,4,5,6,7] 0,
 .u 112 (.mv (.t 4)) [0,1,2,3,4,5,6,7,8,9,10,11] 0,
 .u 113 (.nc (.k 112)) [0,1,2,3,4,5,6,7,8,9,10,11] 0,
 .u 114 (.fa 3 (.k 113)) [0,1,2,3,4,5,6,7,8,9,10,11] 0,
 .u 115 (.ld false 1 .cp (.k 114)) [0,1,2,3,4,5,6,7,8,9,10,11] 0,
 .u 116 (.ia 4 none (.k 111) (.k 115)) [0,1,2,3,4,5,6,7] 0,
 .u 117 (.fa 0 (.k 116)) [0,1,2,3,4,5,6,7] 0,
 .u 118 (.ld false 1 .cp (.k 117)) [0,1,2,3,4,5,6,7] 0,
 .o 119 (.call n_cell_Memory_Read [.k 107,.k 118]),
 .o 120 (.fd false 0 1 (.k 119)),
 .u 121 (.mv (.t 4)) [0,1,2,3,4,5,6,7,8,9,10,11,12,13,14,15,16,17,18,19,20] 0,
 .u 122 (.nc (.k 121)) [0,1,2,3,4,5,6,7,8,9,10,11,12,13,14,15,16,17,18,19,20] 0,
 .u 123 (.fa 2 (.k 122)) [0,1,2,3,4,5,6,7,8,9,10,11,12,13,14,15,16,17,18,19,20] 0,
 .u 124 (.ld false 1 .cp (.k 123)) [0,1,2,3,4,5,6,7,8,9,10,11,12,13,14,15,16,17,18,19,20] 0,
 .u 125 (.mv (.t 4)) [0,1,2,3,4,5,6,7,8,9,10,11,12,13,14,15,16,17,18,19,20,21,22,23,24] 0,
 .u 126 (.nc (.k 125)) [0,1,2,3,4,5,6,7,8,9,10,11,12,13,14,15,16,17,18,19,20,21,22,23,24] 0,
 .u 127 (.fa 3 (.k 126)) [0,1,2,3,4,5,6,7,8,9,10,11,12,13,14,15,16,17,18,19,20,21,22,23,24] 0,
 .u 128 (.ld false 1 .cp (.k 127)) [0,1,2,3,4,5,6,7,8,9,10,11,12,13,14,15,16,17,18,19,20,21,22,23,24] 0,
 .u 129 (.ia 4 none (.k 124) (.k 128)) [0,1,2,3,4,5,6,7,8,9,10,11,12,13,14,15,16,17,18,19,20] 0,
 .u 130 (.fa 1 (.k 129)) [0,1,2,3,4,5,6,7,8,9,10,11,12,13,14,15,16,17,18,19,20] 0,
 .u 131 (.fa 0 (.k 130)) [0,1,2,3,4,5,6,7,8,9,10,11,12,13,14,15,16,17,18,19,20] 0,
 .u 132 (.ld false 1 .cp (.k 131)) [0,1,2,3,4,5,6,7,8,9,10,11,12,13,14,15,16,17,18,19,20] 0,
 .o 133 (.bin .neq (.k 120) (.k 132)),
 .o 99 (.mv (.k 133))] true [0,4,99] [])
 (.cond 99 (.reg [] [.o 134 (.mv (.k 0)),
 .o 135 (.call n_scan_Runner_failed [.k 134])] false [] [])
 (.seq (.reg [] [.o 13 (.mv (.t 4)),
 .o 14 (.nc (.t 13)),
 .o 15 (.fa 3 (.k 14)),
 .o 16 (.ld false 1 .cp (.k 15)),
 .o 17 (.bin .add (.k 16) (.c (.i .i64 1))),
 .o 18 (.nc (.k 13)),
 .o 19 (.fa 3 (.k 18)),
 .s (.st 1 (.k 19) (.k 17))] false [0,4] [])
 (.seq (.reg [] [.o 20 (.mv (.t 4)),
 .o 21 (.nc (.k 20)),
 .o 22 (.fa 3 (.k 21)),
 .o 23 (.ld false 1 .cp (.k 22)),
 .u 24 (.mv (.t 4)) [0,1,2,3] 0,
 .u 25 (.nc (.k 24)) [0,1,2,3] 0,
 .u 26 (.fa 2 (.k 25)) [0,1,2,3] 0,
 .u 27 (.ld false 1 .cp (.k 26)) [0,1,2,3] 0,
 .u 28 (.len false (.k 27)) [0,1,2,3] 0,
 .o 29 (.bin .eql (.k 23) (.k 28))] true [0,29] [])
 (.cond 29 (.reg [] [.o 30 (.mv (.k 0)),
 .o 31 (.call n_scan_Runner_done [.k 30])] false [] [])
 .skip)))))))))))⟩

def F_engine_With : F := ⟨3,[.inl 6,.inl 7],
 (.seq (.reg [] [.o 6 (.mv (.c (.nilp))),
 .o 7 (.mv (.c (.i .i64 0)))] false [0,1,2] [])
 (.seq (.reg [] [.o 11 (.mv (.t 0)),
 .o 12 (.mv (.t 1)),
 .o 13 (.call n_engine_machine [.k 11,.k 12]),
 .o 10 (.mv (.k 13)),
 .o 14 (.ex false 0 10),
 .o 15 (.ex false 1 10),
 .o 8 (.mv (.k 14)),
 .o 9 (.mv (.k 15))] false [0,1,2,8,9] [])
 (.seq (.seq (.reg [] [.o 16 (.mv (.t 9)),
 .o 17 (.bin .neq (.k 16) (.c (.i .i64 0)))] false [0,1,2,8,9,17] [])
 (.cond 17 (.seq (.reg [] [.o 18 (.mv (.k 9)),
 .o 6 (.mv (.c (.nilp))),
 .o 7 (.mv (.k 18))] false [6,7] [])
 .ret)
 .skip))
 (.seq (.reg [] [.o 19 (.mv (.k 0)),
 .o 20 (.mv (.k 1)),
 .o 21 (.mv (.k 2)),
 .o 22 (.mv (.k 8)),
 .o 23 (.bd ([.i .i64 0,.i .i64 0,.nilp,.nili,.nilp,.nilp,.nilp,.nilp,.nilp,.nilp,.b false,.i .i64 0]) [(0,1,.k 19),(1,1,.k 20),(2,1,.k 21),(3,1,.k 22)]),
 .o 24 (.bg (.k 23)),
 .o 6 (.mv (.k 24)),
 .o 7 (.mv (.c (.i .i64 0)))] false [6,7] [])
 .ret))))⟩

def F_cell_New : F := ⟨0,[.inl 0],
 (.seq (.reg [] [.o 0 (.mv (.c (.nilp)))] false [] [])
 (.seq (.reg [] [.o 1 (.bd ([.l .x 3 [],.i .u64 0]) []),
 .o 2 (.bg (.k 1)),
 .o 0 (.mv (.k 2))] false [0] [])
 .ret))⟩

def F_pile_New : F := ⟨1,[.inl 2],
 (.seq (.reg [.zz 0] [.o 2 (.mv (.c (.nilp)))] false [0] [])
 (.seq (.reg [] [.o 6 (.bd ([.l .x 2 []]) []),
 .o 7 (.bg (.k 6)),
 .o 3 (.mv (.k 7))] false [0,3] [])
 (.seq (.seq (.reg [] [.o 8 (.mv (.k 0)),
 .o 9 (.len false (.t 8)),
 .o 10 (.mv (.c (.i .i64 0)))] false [3,8,9,10] [])
 (.blk 0 (.loop (.seq (.reg [] [.o 11 (.bin .lss (.t 10) (.t 9))] false [3,8,9,10,11] [])
 (.seq (.cond 11 .skip
 (.exit 0))
 (.seq (.blk 1 (.seq (.reg [] [.o 12 (.ia 2 none (.t 8) (.t 10)),
 .o 13 (.ld true 2 .cp (.k 12)),
 .o 5 (.al ([.f .f64 0,.i .i64 0])),
 .s (.st 2 (.t 5) (.k 13))] false [3,5,8,9,10] [5])
 (.reg [] [.o 14 (.mv (.t 3)),
 .u 15 (.mv (.t 3)) [0] 0,
 .u 16 (.nc (.k 15)) [0] 0,
 .u 17 (.fa 0 (.k 16)) [0] 0,
 .u 18 (.ld false 1 .tk (.k 17)) [0] 0,
 .u 19 (.ld true 2 .cp (.k 5)) [0,1,2,3,4] 0,
 .u 20 (.callp n_pile_Item_Canon [.k 19]) [0,1,2,3,4] 0,
 .u 21 (.bs 2 1 (.a ([.f .f64 0,.i .i64 0])) [(0,.k 20)]) [0,1,2,3,4] 0,
 .u 22 (.app 2 16 (.k 18) (.k 21)) [0] 0,
 .o 23 (.nc (.k 14)),
 .o 24 (.fa 0 (.k 23)),
 .s (.st 1 (.k 24) (.k 22))] true [3,8,9,10] [])))
 (.reg [] [.o 25 (.bin .add (.k 10) (.c (.i .i64 1))),
 .o 10 (.mv (.k 25))] false [3,8,9,10] [])))))))
 (.seq (.reg [] [.o 26 (.mv (.t 3)),
 .o 27 (.nc (.k 26)),
 .o 28 (.fa 0 (.k 27)),
 .o 29 (.mi t_pile_items_u (.k 28)),
 .o 30 (.call n_container_heap_Init [.k 29])] false [3] [])
 (.seq (.reg [] [.o 31 (.mv (.k 3)),
 .o 2 (.mv (.k 31))] false [2] [])
 .ret)))))⟩

def F_pile_Pile_All : F := ⟨1,[.inl 2],
 (.seq (.reg [] [.o 2 (.mv (.c (.l .o 2 [])))] false [0] [])
 (.seq (.reg [] [.o 7 (.bs 2 0 (.a ([.f .f64 0,.i .i64 0])) []),
 .o 8 (.mv (.k 0)),
 .o 9 (.nc (.k 8)),
 .o 10 (.fa 0 (.k 9)),
 .z 11 (.lda 1 (.k 10)) 1,
 .o 12 (.app 2 16 (.k 7) (.k 11)),
 .o 13 (.bd ([.l .x 2 []]) [(0,1,.k 12)]),
 .o 14 (.bg (.k 13)),
 .o 3 (.mv (.k 14))] false [3] [])
 (.seq (.reg [] [.o 4 (.mv (.c (.l .o 2 [])))] false [3,4] [])
 (.blk 0 (.loop (.blk 1 (.seq (.reg [] [.o 16 (.mv (.t 3)),
 .o 17 (.call n_pile_Pile_Take [.k 16]),
 .o 15 (.mv (.k 17)),
 .o 18 (.ex false 0 15),
 .o 19 (.ex false 1 15),
 .o 5 (.al ([.f .f64 0,.i .i64 0])),
 .s (.st 2 (.t 5) (.k 18)),
 .o 6 (.mv (.k 19))] false [3,4,5,6] [5])
 (.seq (.seq (.reg [] [.o 20 (.mv (.k 6)),
 .o 21 (.un .not (.k 20))] false [3,4,5,21] [5])
 (.cond 21 (.seq (.reg [] [.o 22 (.mv (.k 4)),
 .o 2 (.mv (.k 22))] false [2] [])
 .ret)
 .skip))
 (.reg [] [.o 23 (.mv (.k 4)),
 .o 24 (.ld true 2 .cp (.k 5)),
 .o 25 (.bs 2 1 (.a ([.f .f64 0,.i .i64 0])) [(0,.k 24)]),
 .z 26 (.app 2 16 (.k 23) (.k 25)) 1,
 .o 4 (.mv (.k 26))] false [3,4] [])))))))))⟩

def F_engine_Engine_Begin : F := ⟨3,[.inl 6],
 (.seq (.reg [] [.o 5 (.bx (.k 2)),
 .o 6 (.mv (.c (.i .i64 0)))] false [0,1,5] [5])
 (.seq (.blk 0 (.seq (.reg [] [.o 9 (.mv (.t 1)),
 .o 10 (.bin .lss (.k 9) (.c (.i .i64 0))),
 .o 11 (.mv (.k 10)),
 .c 11 false 12 (.mv (.t 1)),
 .c 11 false 13 (.bin .geq (.k 12) (.c (.i .i64 6))),
 .o 14 (.pick (.k 11) (.c (.b true)) (.k 13)),
 .o 8 (.mv (.k 14))] false [0,1,5,8] [5])
 (.cond 8 (.seq (.reg [] [.o 6 (.mv (.c (.i .i64 4)))] false [6] [])
 .ret)
 (.seq (.reg [] [.o 16 (.mv (.t 0)),
 .o 17 (.nc (.k 16)),
 .o 18 (.fa 10 (.k 17)),
 .o 19 (.ld false 1 .cp (.k 18)),
 .o 15 (.mv (.k 19))] false [0,1,5,15] [5])
 (.cond 15 (.seq (.reg [] [.o 6 (.mv (.c (.i .i64 12)))] false [6] [])
 .ret)
 .skip)))))
 (.seq (.seq (.reg [] [.o 20 (.ld true 5 .cp (.t 5)),
 .u 21 (.mv (.t 0)) [0] 0,
 .u 22 (.nc (.k 21)) [0] 0,
 .u 23 (.fa 0 (.k 22)) [0] 0,
 .u 24 (.ld false 1 .cp (.k 23)) [0] 0,
 .o 25 (.call n_op_Op_Check [.k 20,.k 24]),
 .o 7 (.mv (.k 25))] true [0,1,5,7] [5])
 (.seq (.reg [] [.o 26 (.mv (.t 7)),
 .o 27 (.bin .neq (.k 26) (.c (.i .i64 0)))] false [0,1,5,7,27] [5])
 (.cond 27 (.seq (.reg [] [.o 28 (.mv (.k 7)),
 .o 6 (.mv (.k 28))] false [6] [])
 .ret)
 .skip)))
 (.seq (.seq (.reg [] [.o 29 (.mv (.t 0)),
 .o 30 (.mv (.t 1)),
 .o 31 (.nc (.k 29)),
 .o 32 (.fa 4 (.k 31)),
 .o 33 (.ia 1 (some 6) (.k 32) (.k 30)),
 .o 34 (.ld false 1 .cp (.k 33)),
 .o 35 (.eq true .pt (.k 34) (.c (.nilp)))] false [0,1,5,35] [5])
 (.cond 35 (.seq (.reg [] [.o 6 (.mv (.c (.i .i64 11)))] false [6] [])
 .ret)
 .skip))
 (.seq (.reg [] [.o 36 (.mv (.k 0)),
 .u 37 (.mv (.k 1)) [0] 0,
 .u 38 (.ld true 5 .cp (.k 5)) [0,1] 0,
 .u 39 (.bd ([.i .i64 0,.f .f64 0,.i .i64 0,.i .i64 0,.i .i64 0,.i .i64 0,.i .i64 0,.i .i64 0,.i .i64 0,.i .i64 0,.b false,.i .u64 0,.i .i64 0,.l .o 2 [],.i .u64 0,.i .i64 0,.l .o 2 []]) [(0,5,.k 38)]) [0,1] 0,
 .u 40 (.bg (.k 39)) [0,1] 0,
 .u 41 (.nc (.k 36)) [1,2,3,4] 0,
 .u 42 (.fa 4 (.k 41)) [1,2,3,4] 0,
 .o 43 (.ia 1 (some 6) (.k 42) (.k 37)),
 .s (.st 1 (.k 43) (.k 40))] true [] [])
 (.seq (.reg [] [.o 6 (.mv (.c (.i .i64 0)))] false [6] [])
 .ret))))))⟩

def F_engine_Engine_Steps : F := ⟨1,[.inl 2],
 (.seq (.reg [] [.o 2 (.mv (.c (.i .i64 0)))] false [0] [])
 (.seq (.reg [] [.o 3 (.mv (.k 0)),
 .o 4 (.nc (.k 3)),
 .o 5 (.fa 11 (.k 4)),
 .o 6 (.ld false 1 .cp (.k 5)),
 .o 2 (.mv (.k 6))] false [2] [])
 .ret))⟩

def F_c_ref06_Of : F := ⟨1,[.inl 2,.inl 3],
 (.seq (.reg [] [.o 2 (.mv (.c (.i .i64 0))),
 .o 3 (.mv (.c (.i .i64 0)))] false [0] [])
 (.seq (.seq (.reg [] [.o 4 (.mv (.k 0))] false [4] [])
 (.blk 0 (.seq (.reg [] [.o 6 (.bin .eql (.t 4) (.c (.i .i64 1))),
 .o 5 (.mv (.k 6))] false [4,5] [])
 (.cond 5 (.seq (.reg [] [.o 2 (.mv (.c (.i .i64 1))),
 .o 3 (.mv (.c (.i .i64 2)))] false [2,3] [])
 .ret)
 (.seq (.reg [] [.o 8 (.bin .eql (.t 4) (.c (.i .i64 2))),
 .o 7 (.mv (.k 8))] false [4,7] [])
 (.cond 7 (.seq (.reg [] [.o 2 (.mv (.c (.i .i64 3))),
 .o 3 (.mv (.c (.i .i64 4)))] false [2,3] [])
 .ret)
 (.seq (.reg [] [.o 10 (.bin .eql (.t 4) (.c (.i .i64 3))),
 .o 9 (.mv (.k 10))] false [4,9] [])
 (.cond 9 (.seq (.reg [] [.o 2 (.mv (.c (.i .i64 5))),
 .o 3 (.mv (.c (.i .i64 6)))] false [2,3] [])
 .ret)
 (.seq (.reg [] [.o 12 (.bin .eql (.k 4) (.c (.i .i64 4))),
 .o 11 (.mv (.k 12))] false [11] [])
 (.cond 11 (.seq (.reg [] [.o 2 (.mv (.c (.i .i64 7))),
 .o 3 (.mv (.c (.i .i64 7)))] false [2,3] [])
 .ret)
 .skip))))))))))
 (.seq (.reg [] [.o 2 (.mv (.c (.i .i64 0))),
 .o 3 (.mv (.c (.i .i64 (-1))))] false [2,3] [])
 .ret)))⟩

def F_c_ref06_Into : F := ⟨2,[.inl 4],
 (.seq (.reg [] [.o 4 (.mv (.c (.i .i64 0)))] false [0,1] [])
 (.seq (.seq (.reg [] [.o 6 (.mv (.t 1)),
 .o 7 (.bin .lss (.k 6) (.c (.i .i64 1)))] false [0,1,7] [])
 (.cond 7 (.seq (.reg [] [.o 4 (.mv (.c (.i .i64 0)))] false [4] [])
 .ret)
 .skip))
 (.seq (.reg [] [.o 8 (.mv (.k 0)),
 .o 9 (.mv (.t 1)),
 .o 10 (.bin .rem (.k 8) (.k 9)),
 .o 5 (.mv (.k 10))] false [1,5] [])
 (.seq (.seq (.reg [] [.o 11 (.mv (.t 5)),
 .o 12 (.bin .lss (.k 11) (.c (.i .i64 0)))] false [1,5,12] [])
 (.cond 12 (.reg [] [.o 13 (.mv (.k 5)),
 .o 14 (.mv (.k 1)),
 .o 15 (.bin .add (.k 13) (.k 14)),
 .o 5 (.mv (.k 15))] false [5] [])
 .skip))
 (.seq (.reg [] [.o 16 (.mv (.k 5)),
 .o 4 (.mv (.k 16))] false [4] [])
 .ret)))))⟩

def F_c_law04_Own : F := ⟨1,[.inr (2,true,2)],
 (.seq (.reg [] [.o 1 (.bx (.k 0)),
 .o 2 (.al ([.f .f64 0,.i .i64 0]))] false [1,2] [1,2])
 (.seq (.reg [] [.o 3 (.fa 0 (.t 1)),
 .o 4 (.ld false 1 .cp (.k 3)),
 .o 5 (.call n_c_law03_F [.k 4]),
 .u 6 (.fa 1 (.t 1)) [0,1,2] 0,
 .u 7 (.ld false 1 .cp (.k 6)) [0,1,2] 0,
 .o 8 (.bd ([.f .f64 0,.i .i64 0]) [(0,1,.k 5),(1,1,.k 7)]),
 .s (.st 2 (.t 2) (.k 8))] true [2] [2])
 .ret))⟩

def F_net_New : F := ⟨1,[.inr (2,true,3),.inl 3],
 (.seq (.reg [] [.o 2 (.al ([.i .i64 0,.l .o 2 [],.l .o 1 []])),
 .o 3 (.mv (.c (.i .i64 0)))] false [0,2] [2])
 (.seq (.reg [] [.o 7 (.mv (.k 0)),
 .o 8 (.call n_wire_Make [.k 7]),
 .o 6 (.mv (.k 8)),
 .o 9 (.ex false 0 6),
 .o 10 (.ex false 1 6),
 .o 4 (.al ([.i .i64 0,.l .o 2 [],.l .o 1 []])),
 .s (.st 3 (.t 4) (.k 9)),
 .o 5 (.mv (.k 10))] false [2,4,5] [2,4])
 (.seq (.reg [] [.o 11 (.ld true 3 .tk (.k 4)),
 .o 12 (.bd ([.i .i64 0,.l .o 2 [],.l .o 1 []]) [(0,3,.k 11)]),
 .o 13 (.mv (.k 5)),
 .s (.st 3 (.t 2) (.k 12)),
 .o 3 (.mv (.k 13))] false [2,3] [2])
 .ret)))⟩

def F_net_Net_Out : F := ⟨2,[.inl 4],
 (.seq (.reg [.zz 0] [.o 2 (.bx (.k 0)),
 .o 4 (.mv (.c (.i .i64 0)))] false [1,2] [2])
 (.seq (.reg [] [.o 5 (.fa 0 (.k 2)),
 .o 6 (.fa 1 (.k 5)),
 .o 7 (.ld false 1 .tk (.k 6)),
 .o 8 (.len false (.k 7)),
 .o 9 (.mv (.k 1)),
 .o 10 (.bin .add (.k 8) (.k 9)),
 .o 4 (.mv (.k 10))] false [4] [])
 .ret))⟩

def F_real_Cmp : F := ⟨2,[.inl 4],
 (.seq (.reg [] [.o 4 (.mv (.c (.i .i64 0)))] false [0,1] [])
 (.seq (.reg [] [.o 7 (.mv (.k 0)),
 .o 8 (.call n_real_Key [.k 7]),
 .o 9 (.mv (.k 1)),
 .o 10 (.call n_real_Key [.k 9]),
 .o 5 (.mv (.k 8)),
 .o 6 (.mv (.k 10))] false [5,6] [])
 (.seq (.blk 0 (.seq (.reg [] [.o 12 (.mv (.t 5)),
 .o 13 (.mv (.t 6)),
 .o 14 (.bin .lss (.k 12) (.k 13)),
 .o 11 (.mv (.k 14))] false [5,6,11] [])
 (.cond 11 (.seq (.reg [] [.o 4 (.mv (.c (.i .i64 (-1))))] false [4] [])
 .ret)
 (.seq (.reg [] [.o 16 (.mv (.k 5)),
 .o 17 (.mv (.k 6)),
 .o 18 (.bin .gtr (.k 16) (.k 17)),
 .o 15 (.mv (.k 18))] false [15] [])
 (.cond 15 (.seq (.reg [] [.o 4 (.mv (.c (.i .i64 1)))] false [4] [])
 .ret)
 .skip)))))
 (.seq (.reg [] [.o 4 (.mv (.c (.i .i64 0)))] false [4] [])
 .ret))))⟩

def F_c_ref06_Check : F := ⟨3,[.inl 6],
 (.seq (.reg [] [.o 6 (.mv (.c (.i .i64 0)))] false [0,1,2] [])
 (.seq (.reg [] [.o 10 (.mv (.k 0)),
 .o 11 (.call n_c_ref06_Of [.k 10]),
 .o 9 (.mv (.k 11)),
 .o 12 (.ex false 0 9),
 .o 13 (.ex false 1 9),
 .o 7 (.mv (.k 12)),
 .o 8 (.mv (.k 13))] false [1,2,7,8] [])
 (.seq (.seq (.reg [] [.o 14 (.mv (.t 1)),
 .o 15 (.mv (.k 7)),
 .o 16 (.bin .lss (.k 14) (.k 15)),
 .o 17 (.mv (.k 16)),
 .c 17 false 18 (.mv (.t 1)),
 .c 17 false 19 (.mv (.k 8)),
 .c 17 false 20 (.bin .gtr (.k 18) (.k 19)),
 .o 21 (.pick (.k 17) (.c (.b true)) (.k 20))] false [1,2,21] [])
 (.cond 21 (.seq (.reg [] [.o 6 (.mv (.c (.i .i64 6)))] false [6] [])
 .ret)
 .skip))
 (.seq (.seq (.reg [] [.o 22 (.mv (.k 1)),
 .o 23 (.bin .eql (.k 22) (.c (.i .i64 5))),
 .o 24 (.mv (.k 23)),
 .c 24 true 25 (.mv (.t 2)),
 .c 24 true 26 (.bin .lss (.k 25) (.c (.i .i64 0))),
 .c 24 true 27 (.mv (.k 26)),
 .c 27 false 28 (.mv (.k 2)),
 .c 27 false 29 (.bin .gtr (.k 28) (.c (.i .i64 4294967296))),
 .c 24 true 30 (.pick (.k 27) (.c (.b true)) (.k 29)),
 .o 31 (.pick (.k 24) (.k 30) (.c (.b false)))] false [31] [])
 (.cond 31 (.seq (.reg [] [.o 6 (.mv (.c (.i .i64 4)))] false [6] [])
 .ret)
 .skip))
 (.seq (.reg [] [.o 6 (.mv (.c (.i .i64 0)))] false [6] [])
 .ret)))))⟩

def F_c_ref04_Make : F := ⟨2,[.inr (4,true,2)],
 (.seq (.reg [] [.o 4 (.al ([.i .u64 0,.i .i64 0]))] false [0,1,4] [4])
 (.seq (.reg [] [.o 5 (.mv (.k 0)),
 .o 6 (.call n_c_ref03_Bits [.k 5]),
 .o 7 (.mv (.k 1)),
 .o 8 (.bd ([.i .u64 0,.i .i64 0]) [(0,1,.k 6),(1,1,.k 7)]),
 .s (.st 2 (.t 4) (.k 8))] false [4] [4])
 .ret))⟩

def F_c_ref16_Pick : F := ⟨2,[.inr (4,true,18),.inl 5,.inr (6,true,4),.inl 7],
 (.seq (.reg [] [.o 2 (.bx (.k 0)),
 .o 4 (.al ([.i .i64 0,.i .i64 0,.l .o 3 [],.l .x 17 [],.b false,.b false,.b false,.b false,.b false,.i .i64 0,.i .i64 0,.i .i64 0,.i .i64 0,.l .o 4 [],.b false,.l .o 4 [],.i .i64 0,.b false])),
 .o 5 (.mv (.c (.i .i64 0))),
 .o 6 (.al ([.b false,.i .u64 0,.i .i64 0,.i .i64 0])),
 .o 7 (.mv (.c (.b false)))] false [1,2,4,6] [2,4,6])
 (.seq (.reg [.fzo 2] [.o 18 (.fa 0 (.t 2)),
 .z 19 (.ld true 5 .cp (.k 18)) 2,
 .o 20 (.call n_c_ref13_Busy [.k 19]),
 .o 21 (.len false (.k 20)),
 .o 8 (.mv (.k 21))] false [1,2,4,6,8] [2,4,6])
 (.seq (.seq (.reg [] [.o 22 (.mv (.t 8)),
 .o 23 (.bin .eql (.k 22) (.c (.i .i64 0))),
 .o 24 (.mv (.k 23)),
 .c 24 true 25 (.fa 5 (.t 2)),
 .c 24 true 26 (.ld false 1 .cp (.k 25)),
 .c 24 true 27 (.un .not (.k 26)),
 .o 28 (.pick (.k 24) (.k 27) (.c (.b false)))] false [1,2,4,6,8,28] [2,4,6])
 (.cond 28 (.seq (.reg [] [.o 29 (.ld true 18 .tk (.k 2)),
 .o 30 (.bd ([.b false,.i .u64 0,.i .i64 0,.i .i64 0]) []),
 .s (.st 18 (.t 4) (.k 29)),
 .o 5 (.mv (.c (.i .i64 (-2)))),
 .s (.st 4 (.t 6) (.k 30)),
 .o 7 (.mv (.c (.b false)))] false [4,5,6,7] [4,6])
 .ret)
 .skip))
 (.seq (.reg [] [.o 31 (.fa 12 (.t 2)),
 .o 32 (.ld false 1 .cp (.k 31)),
 .o 33 (.bin .add (.k 32) (.c (.i .i64 1))),
 .o 34 (.fa 12 (.t 2)),
 .s (.st 1 (.k 34) (.k 33))] false [1,2,4,6,8] [2,4,6])
 (.seq (.seq (.reg [] [.o 35 (.fa 5 (.t 2)),
 .o 36 (.ld false 1 .cp (.k 35)),
 .o 37 (.un .not (.k 36))] false [1,2,4,6,8,37] [2,4,6])
 (.cond 37 (.seq (.reg [.fzo 2] [.o 39 (.fa 0 (.t 2)),
 .o 40 (.ld true 5 .cp (.k 39)),
 .o 41 (.mv (.k 1)),
 .z 42 (.call n_c_ref13_Pick [.k 40,.k 41]) 1,
 .o 38 (.mv (.k 42)),
 .o 43 (.ex true 0 38),
 .o 44 (.ex false 1 38),
 .o 45 (.ex false 2 38),
 .o 46 (.ex false 3 38),
 .o 9 (.al ([.i .i64 0,.i .i64 0,.l .o 3 [],.l .x 17 [],.b false])),
 .o 11 (.al ([.b false,.i .u64 0,.i .i64 0,.i .i64 0])),
 .s (.st 5 (.t 9) (.k 43)),
 .o 10 (.mv (.k 44)),
 .s (.st 4 (.t 11) (.k 45)),
 .o 12 (.mv (.k 46))] false [2,4,6,9,10,11,12] [2,4,6,9,11])
 (.seq (.reg [] [.o 47 (.ld true 5 .tk (.k 9)),
 .o 48 (.fa 0 (.t 2)),
 .s (.st 5 (.k 48) (.k 47))] false [2,4,6,10,11,12] [2,4,6,11])
 (.seq (.reg [.fzo 2] [.o 49 (.ld true 18 .cp (.k 2)),
 .u 50 (.mv (.k 10)) [0] 0,
 .u 51 (.ld true 4 .cp (.k 11)) [0,1] 0,
 .u 52 (.mv (.k 12)) [0,1,2] 0,
 ⟨none,none,.st 18 (.t 4) (.k 49),[1,2,3],0⟩,
 .u 5 (.mv (.k 50)) [2,3] 0,
 ⟨none,none,.st 4 (.t 6) (.k 51),[3],0⟩,
 .o 7 (.mv (.k 52))] true [4,5,6,7] [4,6])
 .ret)))
 .skip))
 (.seq (.reg [] [.o 53 (.mv (.k 1)),
 .o 54 (.mv (.t 8)),
 .o 55 (.bin .add (.k 54) (.c (.i .i64 1))),
 .o 56 (.call n_c_ref06_Into [.k 53,.k 55]),
 .o 13 (.mv (.k 56))] false [2,4,6,8,13] [2,4,6])
 (.seq (.seq (.reg [] [.o 57 (.mv (.t 13)),
 .o 58 (.mv (.t 8)),
 .o 59 (.bin .eql (.k 57) (.k 58))] false [2,4,6,8,13,59] [2,4,6])
 (.cond 59 (.seq (.reg [] [.o 60 (.ld true 18 .tk (.k 2)),
 .o 61 (.mv (.k 8)),
 .o 62 (.call n_c_ref16_step [.k 60,.k 61]),
 .o 63 (.bd ([.b false,.i .u64 0,.i .i64 0,.i .i64 0]) []),
 .s (.st 18 (.t 4) (.k 62)),
 .o 5 (.mv (.c (.i .i64 (-1)))),
 .s (.st 4 (.t 6) (.k 63)),
 .o 7 (.mv (.c (.b false)))] false [4,5,6,7] [4,6])
 .ret)
 .skip))
 (.seq (.reg [.fzo 2] [.o 65 (.fa 0 (.t 2)),
 .o 66 (.ld true 5 .cp (.k 65)),
 .o 67 (.mv (.k 13)),
 .z 68 (.call n_c_ref13_Pick [.k 66,.k 67]) 1,
 .o 64 (.mv (.k 68)),
 .o 69 (.ex true 0 64),
 .o 70 (.ex false 1 64),
 .o 71 (.ex false 2 64),
 .o 72 (.ex false 3 64),
 .o 14 (.al ([.i .i64 0,.i .i64 0,.l .o 3 [],.l .x 17 [],.b false])),
 .o 16 (.al ([.b false,.i .u64 0,.i .i64 0,.i .i64 0])),
 .s (.st 5 (.t 14) (.k 69)),
 .o 15 (.mv (.k 70)),
 .s (.st 4 (.t 16) (.k 71)),
 .o 17 (.mv (.k 72))] false [2,4,6,14,15,16,17] [2,4,6,14,16])
 (.seq (.reg [] [.o 73 (.ld true 5 .tk (.k 14)),
 .o 74 (.fa 0 (.t 2)),
 .s (.st 5 (.k 74) (.k 73))] false [2,4,6,15,16,17] [2,4,6,16])
 (.seq (.reg [.fzo 2] [.o 75 (.ld true 18 .cp (.k 2)),
 .u 76 (.mv (.k 15)) [0] 0,
 .u 77 (.ld true 4 .cp (.k 16)) [0,1] 0,
 .u 78 (.mv (.k 17)) [0,1,2] 0,
 ⟨none,none,.st 18 (.t 4) (.k 75),[1,2,3],0⟩,
 .u 5 (.mv (.k 76)) [2,3] 0,
 ⟨none,none,.st 4 (.t 6) (.k 77),[3],0⟩,
 .o 7 (.mv (.k 78))] true [4,5,6,7] [4,6])
 .ret))))))))))⟩

def F_c_law06_IsAnswer : F := ⟨2,[.inl 4],
 (.seq (.reg [] [.o 2 (.bx (.k 0)),
 .o 3 (.bx (.k 1)),
 .o 4 (.mv (.c (.i .i64 0)))] false [2,3] [2,3])
 (.seq (.seq (.reg [] [.o 5 (.fa 0 (.t 2)),
 .o 6 (.ld false 1 .cp (.k 5)),
 .o 7 (.fa 0 (.t 3)),
 .o 8 (.ld false 1 .cp (.k 7)),
 .o 9 (.eq true .bo (.k 6) (.k 8)),
 .o 10 (.mv (.k 9)),
 .c 10 false 11 (.fa 3 (.t 2)),
 .c 10 false 12 (.ld false 1 .cp (.k 11)),
 .c 10 false 13 (.fa 3 (.t 3)),
 .c 10 false 14 (.ld false 1 .cp (.k 13)),
 .c 10 false 15 (.bin .neq (.k 12) (.k 14)),
 .o 16 (.pick (.k 10) (.c (.b true)) (.k 15))] false [2,3,16] [2,3])
 (.cond 16 (.seq (.reg [] [.o 4 (.mv (.c (.i .i64 (-1))))] false [4] [])
 .ret)
 .skip))
 (.seq (.reg [] [.o 17 (.fa 1 (.k 2)),
 .o 18 (.ld true 2 .cp (.k 17)),
 .o 19 (.fa 1 (.k 3)),
 .o 20 (.ld true 2 .cp (.k 19)),
 .o 21 (.call n_c_law04_Is [.k 18,.k 20]),
 .o 4 (.mv (.k 21))] false [4] [])
 .ret)))⟩

def F_engine_Engine_Close : F := ⟨1,[],
 (.reg [] [.o 2 (.mv (.k 0)),
 .o 3 (.nc (.k 2)),
 .o 4 (.fa 10 (.k 3)),
 .s (.st 1 (.k 4) (.c (.b true)))] false [] [])⟩

def F_cell_Value_Clone : F := ⟨1,[.inr (2,true,2)],
 (.seq (.reg [.zz 0] [.o 1 (.bx (.k 0)),
 .o 2 (.al ([.i .i64 0,.l .o 2 []]))] false [1,2] [1,2])
 (.seq (.reg [] [.o 3 (.fa 0 (.t 1)),
 .o 4 (.ld false 1 .cp (.k 3)),
 .u 5 (.fa 1 (.t 1)) [0,1] 0,
 .u 6 (.ld false 1 .cp (.k 5)) [0,1] 0,
 .u 7 (.app 2 16 (.c (.l .o 2 [])) (.k 6)) [0,1] 1,
 .o 8 (.bd ([.i .i64 0,.l .o 2 []]) [(0,1,.k 4),(1,1,.k 7)]),
 .s (.st 2 (.t 2) (.k 8))] true [2] [2])
 .ret))⟩

def F_c_law04_Are : F := ⟨2,[.inl 4],
 (.seq (.reg [.zz 0,.zz 1] [.o 4 (.mv (.c (.i .i64 0)))] false [0,1] [])
 (.seq (.seq (.reg [] [.o 6 (.mv (.t 0)),
 .o 7 (.len false (.k 6)),
 .o 8 (.mv (.t 1)),
 .o 9 (.len false (.k 8)),
 .o 10 (.bin .neq (.k 7) (.k 9))] false [0,1,10] [])
 (.cond 10 (.seq (.reg [] [.o 4 (.mv (.c (.i .i64 (-1))))] false [4] [])
 .ret)
 .skip))
 (.seq (.seq (.reg [] [.o 11 (.mv (.t 1)),
 .o 12 (.len false (.k 11)),
 .o 13 (.mv (.c (.i .i64 0)))] false [0,1,12,13] [])
 (.blk 0 (.loop (.seq (.reg [] [.o 14 (.bin .lss (.t 13) (.t 12))] false [0,1,12,13,14] [])
 (.seq (.cond 14 .skip
 (.exit 0))
 (.seq (.blk 1 (.seq (.reg [] [.o 15 (.mv (.t 13)),
 .o 5 (.mv (.k 15))] false [0,1,5,12,13] [])
 (.seq (.reg [] [.o 16 (.mv (.t 0)),
 .u 17 (.mv (.t 5)) [0] 0,
 .o 18 (.ia 2 none (.k 16) (.k 17)),
 .o 19 (.ld true 2 .cp (.k 18)),
 .u 20 (.mv (.t 1)) [0,1,2,3] 0,
 .u 21 (.mv (.t 5)) [0,1,2,3,4] 0,
 .u 22 (.ia 2 none (.k 20) (.k 21)) [0,1,2,3] 0,
 .u 23 (.ld true 2 .cp (.k 22)) [0,1,2,3] 0,
 .o 24 (.call n_c_law04_Is [.k 19,.k 23]),
 .o 25 (.bin .neq (.k 24) (.c (.i .i64 0)))] true [0,1,12,13,25] [])
 (.cond 25 (.seq (.reg [] [.o 4 (.mv (.c (.i .i64 (-1))))] false [4] [])
 .ret)
 .skip))))
 (.reg [] [.o 26 (.bin .add (.k 13) (.c (.i .i64 1))),
 .o 13 (.mv (.k 26))] false [0,1,12,13] [])))))))
 (.seq (.reg [] [.o 4 (.mv (.c (.i .i64 0)))] false [4] [])
 .ret))))⟩

def F_engine_Engine_Pick : F := ⟨2,[.inr (4,true,11),.inl 5],
 (.seq (.reg [] [.o 4 (.al ([.i .i64 0,.i .i64 0,.f .f64 0,.i .i64 0,.i .i64 0,.i .i64 0,.b false,.b false,.f .f64 0,.i .i64 0,.i .i64 0])),
 .o 5 (.mv (.c (.b false)))] false [0,1,4] [4])
 (.seq (.reg [] [.o 10 (.mv (.t 0)),
 .o 11 (.call n_engine_Engine_Busy [.k 10]),
 .o 6 (.mv (.k 11))] false [0,1,4,6] [4])
 (.seq (.seq (.reg [] [.o 12 (.mv (.t 6)),
 .o 13 (.len false (.k 12)),
 .o 14 (.bin .eql (.k 13) (.c (.i .i64 0)))] false [0,1,4,6,14] [4])
 (.cond 14 (.seq (.reg [] [.o 15 (.bd ([.i .i64 0,.i .i64 0,.f .f64 0,.i .i64 0,.i .i64 0,.i .i64 0,.b false,.b false,.f .f64 0,.i .i64 0,.i .i64 0]) []),
 .s (.st 11 (.t 4) (.k 15)),
 .o 5 (.mv (.c (.b false)))] false [4,5] [4])
 .ret)
 .skip))
 (.seq (.reg [] [.o 16 (.mv (.t 6)),
 .o 17 (.mv (.k 1)),
 .o 18 (.mv (.k 6)),
 .o 19 (.len false (.k 18)),
 .o 20 (.call n_op_Into [.k 17,.k 19]),
 .o 21 (.ia 1 none (.k 16) (.k 20)),
 .o 22 (.ld false 1 .cp (.k 21)),
 .o 7 (.mv (.k 22))] false [0,4,7] [4])
 (.seq (.reg [] [.o 23 (.mv (.t 0)),
 .o 24 (.mv (.t 7)),
 .o 25 (.nc (.k 23)),
 .o 26 (.fa 4 (.k 25)),
 .o 27 (.ia 1 (some 6) (.k 26) (.k 24)),
 .o 28 (.ld false 1 .cp (.k 27)),
 .o 8 (.mv (.k 28))] false [0,4,7,8] [4])
 (.seq (.reg [] [.o 29 (.mv (.t 7)),
 .o 30 (.mv (.t 8)),
 .o 31 (.nc (.k 30)),
 .o 32 (.fa 0 (.k 31)),
 .o 33 (.ld true 5 .cp (.k 32)),
 .o 34 (.bd ([.i .i64 0,.i .i64 0,.f .f64 0,.i .i64 0,.i .i64 0,.i .i64 0,.b false,.b false,.f .f64 0,.i .i64 0,.i .i64 0]) [(0,1,.k 29),(1,5,.k 33)]),
 .o 9 (.al ([.i .i64 0,.i .i64 0,.f .f64 0,.i .i64 0,.i .i64 0,.i .i64 0,.b false,.b false,.f .f64 0,.i .i64 0,.i .i64 0])),
 .s (.st 11 (.t 9) (.k 34))] false [0,4,7,8,9] [4,9])
 (.seq (.reg [] [.o 36 (.mv (.t 0)),
 .o 37 (.nc (.k 36)),
 .o 38 (.fa 3 (.k 37)),
 .o 39 (.ld false 1 .cp (.k 38)),
 .u 40 (.mv (.t 0)) [0,1,2,3] 0,
 .u 41 (.nc (.k 40)) [0,1,2,3] 0,
 .u 42 (.fa 2 (.k 41)) [0,1,2,3] 0,
 .u 43 (.ld false 1 .cp (.k 42)) [0,1,2,3] 0,
 .u 44 (.mv (.k 8)) [0,1,2,3,4,5,6,7] 0,
 .u 45 (.nc (.t 39)) [4,5,6,7,8] 0,
 .u 46 (.mv (.t 39)) [4,5,6,7,8] 0,
 .o 47 (.inv "Step" (.k 46) [.k 43,.k 44]),
 .o 35 (.mv (.k 47)),
 .o 48 (.ex false 0 35),
 .u 49 (.ex false 1 35) [13] 0,
 .u 50 (.fa 7 (.t 9)) [14] 0,
 ⟨none,none,.st 4 (.k 50) (.k 48),[14],0⟩,
 .o 51 (.fa 6 (.t 9)),
 .s (.st 1 (.k 51) (.k 49))] true [0,4,7,9] [4,9])
 (.seq (.seq (.reg [] [.o 52 (.fa 6 (.t 9)),
 .o 53 (.ld false 1 .cp (.k 52))] false [0,4,7,9,53] [4,9])
 (.cond 53 (.reg [] [.o 54 (.mv (.t 0)),
 .o 55 (.mv (.k 7)),
 .o 56 (.nc (.k 54)),
 .o 57 (.fa 4 (.k 56)),
 .o 58 (.ia 1 (some 6) (.k 57) (.k 55)),
 .s (.st 1 (.k 58) (.c (.nilp)))] false [0,4,9] [4,9])
 .skip))
 (.seq (.reg [] [.o 59 (.mv (.k 0)),
 .o 60 (.nc (.t 59)),
 .o 61 (.fa 11 (.k 60)),
 .o 62 (.ld false 1 .cp (.k 61)),
 .o 63 (.bin .add (.k 62) (.c (.i .i64 1))),
 .o 64 (.nc (.k 59)),
 .o 65 (.fa 11 (.k 64)),
 .s (.st 1 (.k 65) (.k 63))] false [4,9] [4,9])
 (.seq (.reg [] [.o 66 (.ld true 11 .cp (.k 9)),
 .s (.st 11 (.t 4) (.k 66)),
 .o 5 (.mv (.c (.b true)))] false [4,5] [4])
 .ret))))))))))⟩

def F_scan_Runner_cells : F := ⟨2,[.inl 4,.inl 5],
 (.seq (.reg [] [.o 4 (.mv (.c (.i .i64 0))),
 .o 5 (.mv (.c (.b false)))] false [0,1] [])
 (.seq (.seq (.reg [] [.o 11 (.mv (.t 0)),
 .o 12 (.nc (.k 11)),
 .o 13 (.fa 0 (.k 12)),
 .o 14 (.ld false 1 .cp (.k 13)),
 .o 15 (.nc (.k 14)),
 .o 16 (.fa 0 (.k 15)),
 .o 17 (.ld false 1 .cp (.k 16)),
 .o 18 (.call n_engine_Engine_Kind [.k 17])] false [0,1,18] [])
 (.blk 0 (.seq (.reg [] [.o 20 (.bin .eql (.t 18) (.c (.i .i64 2))),
 .o 19 (.mv (.k 20))] false [0,1,18,19] [])
 (.cond 19 (.seq (.seq (.reg [] [.o 21 (.mv (.t 1)),
 .o 22 (.bin .lss (.k 21) (.c (.i .i64 2)))] false [0,1,22] [])
 (.cond 22 (.seq (.reg [] [.o 23 (.mv (.k 1)),
 .o 4 (.mv (.k 23)),
 .o 5 (.mv (.c (.b true)))] false [4,5] [])
 .ret)
 .skip))
 (.seq (.reg [] [.o 24 (.mv (.t 0)),
 .o 25 (.nc (.k 24)),
 .o 26 (.fa 1 (.k 25)),
 .o 27 (.ld false 1 .cp (.k 26)),
 .o 28 (.nc (.k 27)),
 .o 29 (.fa 2 (.k 28)),
 .o 30 (.ld false 1 .cp (.k 29)),
 .o 31 (.ia 4 none (.k 30) (.c (.i .i64 0))),
 .o 32 (.fa 1 (.k 31)),
 .o 33 (.fa 1 (.k 32)),
 .o 34 (.fa 0 (.k 33)),
 .o 35 (.ld false 1 .cp (.k 34)),
 .u 36 (.mv (.t 0)) [0,1,2,3,4,5,6,7,8,9,10,11] 0,
 .u 37 (.nc (.k 36)) [0,1,2,3,4,5,6,7,8,9,10,11] 0,
 .u 38 (.fa 1 (.k 37)) [0,1,2,3,4,5,6,7,8,9,10,11] 0,
 .u 39 (.ld false 1 .cp (.k 38)) [0,1,2,3,4,5,6,7,8,9,10,11] 0,
 .u 40 (.nc (.k 39)) [0,1,2,3,4,5,6,7,8,9,10,11] 0,
 .u 41 (.fa 2 (.k 40)) [0,1,2,3,4,5,6,7,8,9,10,11] 0,
 .u 42 (.ld false 1 .cp (.k 41)) [0,1,2,3,4,5,6,7,8,9,10,11] 0,
 .u 43 (.ia 4 none (.k 42) (.c (.i .i64 1))) [0,1,2,3,4,5,6,7,8,9,10,11] 0,
 .u 44 (.fa 1 (.k 43)) [0,1,2,3,4,5,6,7,8,9,10,11] 0,
 .u 45 (.fa 1 (.k 44)) [0,1,2,3,4,5,6,7,8,9,10,11] 0,
 .u 46 (.fa 0 (.k 45)) [0,1,2,3,4,5,6,7,8,9,10,11] 0,
 .u 47 (.ld false 1 .cp (.k 46)) [0,1,2,3,4,5,6,7,8,9,10,11] 0,
 .u 6 (.mv (.k 35)) [12,13,14,15,16,17,18,19,20,21,22,23] 0,
 .o 7 (.mv (.k 47))] true [0,1,6,7] [])
 (.seq (.reg [] [.o 48 (.mv (.k 6)),
 .o 49 (.mv (.t 0)),
 .o 50 (.nc (.k 49)),
 .o 51 (.fa 0 (.k 50)),
 .o 52 (.ld false 1 .cp (.k 51)),
 .o 53 (.nc (.k 52)),
 .o 54 (.fa 0 (.k 53)),
 .o 55 (.ld false 1 .cp (.k 54)),
 .o 56 (.call n_engine_Engine_Param [.k 55]),
 .o 57 (.bin .mul (.k 48) (.k 56)),
 .o 58 (.bin .add (.c (.i .i64 2)) (.k 57)),
 .o 59 (.mv (.k 1)),
 .o 60 (.bin .add (.k 58) (.k 59)),
 .o 61 (.bin .sub (.k 60) (.c (.i .i64 2))),
 .o 8 (.mv (.k 61))] false [0,7,8] [])
 (.seq (.reg [] [.o 62 (.mv (.t 8)),
 .o 63 (.mv (.t 8)),
 .o 64 (.mv (.k 7)),
 .o 65 (.bin .add (.k 64) (.c (.i .i64 1))),
 .o 66 (.mv (.k 0)),
 .o 67 (.nc (.k 66)),
 .o 68 (.fa 0 (.k 67)),
 .o 69 (.ld false 1 .cp (.k 68)),
 .o 70 (.nc (.k 69)),
 .o 71 (.fa 0 (.k 70)),
 .o 72 (.ld false 1 .cp (.k 71)),
 .o 73 (.call n_engine_Engine_Param [.k 72]),
 .o 74 (.bin .mul (.k 65) (.k 73)),
 .o 75 (.bin .add (.c (.i .i64 2)) (.k 74)),
 .o 76 (.bin .lss (.k 63) (.k 75)),
 .o 77 (.mv (.k 76)),
 .c 77 true 78 (.mv (.k 8)),
 .c 77 true 79 (.bin .lss (.k 78) (.c (.i .i64 1000))),
 .o 80 (.pick (.k 77) (.k 79) (.c (.b false))),
 .o 4 (.mv (.k 62)),
 .o 5 (.mv (.k 80))] false [4,5] [])
 .ret))))
 (.seq (.reg [] [.o 82 (.bin .eql (.k 18) (.c (.i .i64 4))),
 .o 81 (.mv (.k 82))] false [0,1,81] [])
 (.cond 81 (.seq (.reg [] [.o 84 (.mv (.t 0)),
 .o 85 (.nc (.k 84)),
 .o 86 (.fa 0 (.k 85)),
 .o 87 (.ld false 1 .cp (.k 86)),
 .o 88 (.nc (.k 87)),
 .o 89 (.fa 0 (.k 88)),
 .o 90 (.ld false 1 .cp (.k 89)),
 .o 91 (.call n_engine_Engine_Param [.k 90]),
 .o 92 (.callp n_net_New [.k 91]),
 .o 83 (.mv (.k 92)),
 .o 93 (.ex false 0 83),
 .o 94 (.ex false 1 83),
 .o 9 (.al ([.i .i64 0,.l .o 2 [],.l .o 1 []])),
 .s (.st 3 (.t 9) (.k 93)),
 .o 10 (.mv (.k 94))] false [0,1,9] [9])
 (.seq (.reg [] [.o 95 (.mv (.t 1)),
 .u 96 (.mv (.t 1)) [0] 0,
 .u 97 (.ld true 3 .cp (.k 9)) [0,1] 2,
 .u 98 (.mv (.k 0)) [0,1,2] 0,
 .u 99 (.nc (.k 98)) [0,1,2] 0,
 .u 100 (.fa 0 (.k 99)) [0,1,2] 0,
 .u 101 (.ld false 1 .cp (.k 100)) [0,1,2] 0,
 .u 102 (.nc (.k 101)) [0,1,2] 0,
 .u 103 (.fa 0 (.k 102)) [0,1,2] 0,
 .u 104 (.ld false 1 .cp (.k 103)) [0,1,2] 0,
 .u 105 (.call n_engine_Engine_Param [.k 104]) [0,1,2] 0,
 .u 106 (.call n_net_Net_Out [.k 97,.k 105]) [0,1] 0,
 .u 107 (.bin .lss (.k 96) (.k 106)) [0] 0,
 .u 4 (.mv (.k 95)) [1,12] 0,
 .o 5 (.mv (.k 107))] true [4,5] [])
 .ret))
 .skip))))))
 (.seq (.reg [] [.o 108 (.mv (.t 1)),
 .o 109 (.mv (.k 1)),
 .o 110 (.mv (.k 0)),
 .o 111 (.nc (.k 110)),
 .o 112 (.fa 0 (.k 111)),
 .o 113 (.ld false 1 .cp (.k 112)),
 .o 114 (.nc (.k 113)),
 .o 115 (.fa 0 (.k 114)),
 .o 116 (.ld false 1 .cp (.k 115)),
 .o 117 (.call n_engine_Engine_Param [.k 116]),
 .o 118 (.bin .lss (.k 109) (.k 117)),
 .o 4 (.mv (.k 108)),
 .o 5 (.mv (.k 118))] false [4,5] [])
 .ret)))⟩

def F_scan_Runner_done : F := ⟨1,[],
 (.seq (.reg [] [.o 3 (.mv (.t 0)),
 .o 4 (.nc (.k 3)),
 .o 5 (.fa 1 (.k 4)),
 .o 6 (.ld false 1 .cp (.k 5)),
 .o 2 (.mv (.k 6))] false [0,2] [])
 (.seq (.reg [] [.o 7 (.mv (.t 0)),
 .u 8 (.mv (.t 0)) [0] 0,
 .u 9 (.nc (.k 8)) [0] 0,
 .u 10 (.fa 0 (.k 9)) [0] 0,
 .u 11 (.ld false 1 .cp (.k 10)) [0] 0,
 .u 12 (.nc (.k 11)) [0] 0,
 .u 13 (.fa 0 (.k 12)) [0] 0,
 .u 14 (.ld false 1 .cp (.k 13)) [0] 0,
 .u 15 (.call n_engine_Engine_Kind [.k 14]) [0] 0,
 .u 16 (.mv (.t 0)) [0,1,2,3,4,5,6,7,8] 0,
 .u 17 (.nc (.k 16)) [0,1,2,3,4,5,6,7,8] 0,
 .u 18 (.fa 0 (.k 17)) [0,1,2,3,4,5,6,7,8] 0,
 .u 19 (.ld false 1 .cp (.k 18)) [0,1,2,3,4,5,6,7,8] 0,
 .u 20 (.nc (.k 19)) [0,1,2,3,4,5,6,7,8] 0,
 .u 21 (.fa 0 (.k 20)) [0,1,2,3,4,5,6,7,8] 0,
 .u 22 (.ld false 1 .cp (.k 21)) [0,1,2,3,4,5,6,7,8] 0,
 .u 23 (.call n_engine_Engine_Param [.k 22]) [0] 0,
 .u 24 (.mv (.t 2)) [0,1,2,3,4,5,6,7,8,9,10,11,12,13,14,15,16] 0,
 .u 25 (.nc (.k 24)) [0,1,2,3,4,5,6,7,8,9,10,11,12,13,14,15,16] 0,
 .u 26 (.fa 2 (.k 25)) [0,1,2,3,4,5,6,7,8,9,10,11,12,13,14,15,16] 0,
 .u 27 (.ld false 1 .cp (.k 26)) [0,1,2,3,4,5,6,7,8,9,10,11,12,13,14,15,16] 0,
 .u 28 (.mv (.t 2)) [0,1,2,3,4,5,6,7,8,9,10,11,12,13,14,15,16,17,18,19,20] 0,
 .u 29 (.nc (.k 28)) [0,1,2,3,4,5,6,7,8,9,10,11,12,13,14,15,16,17,18,19,20] 0,
 .u 30 (.fa 0 (.k 29)) [0,1,2,3,4,5,6,7,8,9,10,11,12,13,14,15,16,17,18,19,20] 0,
 .u 31 (.ld false 1 .cp (.k 30)) [0,1,2,3,4,5,6,7,8,9,10,11,12,13,14,15,16,17,18,19,20] 0,
 .u 32 (.mv (.t 2)) [0,1,2,3,4,5,6,7,8,9,10,11,12,13,14,15,16,17,18,19,20,21,22,23,24] 0,
 .u 33 (.nc (.k 32)) [0,1,2,3,4,5,6,7,8,9,10,11,12,13,14,15,16,17,18,19,20,21,22,23,24] 0,
 .u 34 (.fa 1 (.k 33)) [0,1,2,3,4,5,6,7,8,9,10,11,12,13,14,15,16,17,18,19,20,21,22,23,24] 0,
 .u 35 (.ld false 1 .cp (.k 34)) [0,1,2,3,4,5,6,7,8,9,10,11,12,13,14,15,16,17,18,19,20,21,22,23,24] 0,
 .u 36 (.bin .sub (.k 31) (.k 35)) [0,1,2,3,4,5,6,7,8,9,10,11,12,13,14,15,16,17,18,19,20] 0,
 .u 37 (.bin .add (.k 36) (.c (.i .i64 1))) [0,1,2,3,4,5,6,7,8,9,10,11,12,13,14,15,16,17,18,19,20] 0,
 .u 38 (.mv (.t 2)) [0,1,2,3,4,5,6,7,8,9,10,11,12,13,14,15,16,17,18,19,20,21,22,23,24,25,26,27,28,29,30] 0,
 .u 39 (.nc (.k 38)) [0,1,2,3,4,5,6,7,8,9,10,11,12,13,14,15,16,17,18,19,20,21,22,23,24,25,26,27,28,29,30] 0,
 .u 40 (.fa 4 (.k 39)) [0,1,2,3,4,5,6,7,8,9,10,11,12,13,14,15,16,17,18,19,20,21,22,23,24,25,26,27,28,29,30] 0,
 .u 41 (.ld false 1 .cp (.k 40)) [0,1,2,3,4,5,6,7,8,9,10,11,12,13,14,15,16,17,18,19,20,21,22,23,24,25,26,27,28,29,30] 0,
 .u 42 (.bd ([.i .i64 0,.i .i64 0,.l .o 4 [],.i .i64 0,.b false]) [(0,1,.k 15),(1,1,.k 23),(2,1,.k 27),(3,1,.k 37),(4,1,.k 41)]) [0] 0,
 .u 43 (.bg (.k 42)) [0] 0,
 .o 44 (.nc (.k 7)),
 .o 45 (.fa 2 (.k 44)),
 .s (.st 1 (.k 45) (.k 43))] true [0,2] [])
 (.seq (.seq (.reg [] [.o 46 (.mv (.t 2)),
 .o 47 (.nc (.k 46)),
 .o 48 (.fa 4 (.k 47)),
 .o 49 (.ld false 1 .cp (.k 48))] false [0,2,49] [])
 (.cond 49 (.seq (.reg [] [.o 50 (.mv (.t 0)),
 .o 51 (.nc (.k 50)),
 .o 52 (.fa 2 (.k 51)),
 .o 53 (.ld false 1 .cp (.k 52)),
 .u 54 (.mv (.t 2)) [0,1,2,3] 0,
 .u 55 (.nc (.k 54)) [0,1,2,3] 0,
 .u 56 (.fa 0 (.k 55)) [0,1,2,3] 0,
 .u 57 (.ld false 1 .cp (.k 56)) [0,1,2,3] 0,
 .o 58 (.nc (.k 53)),
 .o 59 (.fa 3 (.k 58)),
 .s (.st 1 (.k 59) (.k 57))] true [0,2] [])
 (.seq (.reg [] [.o 60 (.mv (.k 2)),
 .o 61 (.nc (.k 60)),
 .o 62 (.fa 5 (.k 61)),
 .o 63 (.ld false 1 .cp (.k 62)),
 .o 64 (.un .not (.k 63))] false [0,64] [])
 (.cond 64 (.reg [] [.o 65 (.mv (.t 0)),
 .o 66 (.nc (.k 65)),
 .o 67 (.fa 0 (.k 66)),
 .o 68 (.ld false 1 .cp (.k 67)),
 .o 69 (.nc (.k 68)),
 .o 70 (.fa 0 (.k 69)),
 .o 71 (.ld false 1 .cp (.k 70)),
 .o 72 (.call n_engine_Engine_Open [.k 71])] false [0] [])
 .skip)))
 .skip))
 (.reg [] [.o 73 (.mv (.k 0)),
 .o 74 (.nc (.k 73)),
 .o 75 (.fa 1 (.k 74)),
 .s (.st 1 (.k 75) (.c (.nilp)))] false [] []))))⟩

def F_scan_Runner_failed : F := ⟨1,[],
 (.seq (.reg [] [.o 2 (.mv (.t 0)),
 .o 3 (.nc (.k 2)),
 .o 4 (.fa 1 (.k 3)),
 .o 5 (.ld false 1 .cp (.k 4)),
 .o 6 (.call n_scan_scanner_again [.k 5])] false [0] [])
 (.seq (.reg [] [.o 7 (.mv (.t 0)),
 .o 8 (.nc (.k 7)),
 .o 9 (.fa 1 (.k 8)),
 .o 10 (.ld false 1 .cp (.k 9)),
 .o 11 (.nc (.t 10)),
 .o 12 (.fa 1 (.k 11)),
 .o 13 (.ld false 1 .cp (.k 12)),
 .o 14 (.bin .sub (.k 13) (.c (.i .i64 1))),
 .o 15 (.nc (.k 10)),
 .o 16 (.fa 1 (.k 15)),
 .s (.st 1 (.k 16) (.k 14))] false [0] [])
 (.seq (.reg [] [.o 17 (.mv (.t 0)),
 .o 18 (.nc (.k 17)),
 .o 19 (.fa 1 (.k 18)),
 .o 20 (.ld false 1 .cp (.k 19)),
 .o 21 (.nc (.k 20)),
 .o 22 (.fa 1 (.k 21)),
 .o 23 (.ld false 1 .cp (.k 22)),
 .o 24 (.bin .eql (.k 23) (.c (.i .i64 0)))] false [0,24] [])
 (.cond 24 (.seq (.reg [] [.o 25 (.mv (.t 0)),
 .o 26 (.nc (.k 25)),
 .o 27 (.fa 1 (.k 26)),
 .o 28 (.ld false 1 .cp (.k 27)),
 .u 29 (.mv (.t 0)) [0,1,2,3] 0,
 .u 30 (.nc (.k 29)) [0,1,2,3] 0,
 .u 31 (.fa 1 (.k 30)) [0,1,2,3] 0,
 .u 32 (.ld false 1 .cp (.k 31)) [0,1,2,3] 0,
 .u 33 (.mv (.t 0)) [0,1,2,3,4,5,6,7] 0,
 .u 34 (.nc (.k 33)) [0,1,2,3,4,5,6,7] 0,
 .u 35 (.fa 0 (.k 34)) [0,1,2,3,4,5,6,7] 0,
 .u 36 (.ld false 1 .cp (.k 35)) [0,1,2,3,4,5,6,7] 0,
 .u 37 (.nc (.k 36)) [0,1,2,3,4,5,6,7] 0,
 .u 38 (.fa 0 (.k 37)) [0,1,2,3,4,5,6,7] 0,
 .u 39 (.ld false 1 .cp (.k 38)) [0,1,2,3,4,5,6,7] 0,
 .u 40 (.call n_engine_Engine_Closed [.k 39]) [0,1,2,3,4,5,6,7] 0,
 .o 41 (.nc (.k 28)),
 .o 42 (.fa 4 (.k 41)),
 .s (.st 1 (.k 42) (.c (.b true))),
 .o 43 (.nc (.k 32)),
 .o 44 (.fa 5 (.k 43)),
 .s (.st 1 (.k 44) (.k 40))] true [0] [])
 (.reg [] [.o 45 (.mv (.k 0)),
 .o 46 (.nc (.k 45)),
 .o 47 (.fa 0 (.k 46)),
 .o 48 (.ld false 1 .cp (.k 47)),
 .o 49 (.nc (.k 48)),
 .o 50 (.fa 0 (.k 49)),
 .o 51 (.ld false 1 .cp (.k 50)),
 .o 52 (.call n_engine_Engine_Close [.k 51])] false [] []))
 .skip))))⟩

def F_engine_machine : F := ⟨2,[.inl 4,.inl 5],
 (.seq (.reg [] [.o 4 (.mv (.c (.nili))),
 .o 5 (.mv (.c (.i .i64 0)))] false [0,1] [])
 (.seq (.seq (.reg [] [.o 6 (.mv (.k 0))] false [1,6] [])
 (.blk 0 (.seq (.reg [] [.o 8 (.bin .eql (.t 6) (.c (.i .i64 1))),
 .o 7 (.mv (.k 8))] false [1,6,7] [])
 (.cond 7 (.seq (.reg [] [.o 9 (.mv (.k 1)),
 .o 10 (.call n_multi_New [.k 9]),
 .o 11 (.ex false 0 10),
 .o 12 (.ex false 1 10),
 .o 13 (.mi t_multi_Multi (.k 11)),
 .o 4 (.mv (.k 13)),
 .o 5 (.mv (.k 12))] false [4,5] [])
 .ret)
 (.seq (.reg [] [.o 15 (.bin .eql (.t 6) (.c (.i .i64 2))),
 .o 14 (.mv (.k 15))] false [1,6,14] [])
 (.cond 14 (.seq (.reg [] [.o 16 (.mv (.k 1)),
 .o 17 (.call n_kfifo_New [.k 16]),
 .o 18 (.ex false 0 17),
 .o 19 (.ex false 1 17),
 .o 20 (.mi t_kfifo_Queue (.k 18)),
 .o 4 (.mv (.k 20)),
 .o 5 (.mv (.k 19))] false [4,5] [])
 .ret)
 (.seq (.reg [] [.o 22 (.bin .eql (.t 6) (.c (.i .i64 3))),
 .o 21 (.mv (.k 22))] false [1,6,21] [])
 (.cond 21 (.seq (.reg [] [.o 23 (.mv (.k 1)),
 .o 24 (.call n_tally_New [.k 23]),
 .o 25 (.ex false 0 24),
 .o 26 (.ex false 1 24),
 .o 27 (.mi t_tally_Tally (.k 25)),
 .o 4 (.mv (.k 27)),
 .o 5 (.mv (.k 26))] false [4,5] [])
 .ret)
 (.seq (.reg [] [.o 29 (.bin .eql (.k 6) (.c (.i .i64 4))),
 .o 28 (.mv (.k 29))] false [1,28] [])
 (.cond 28 (.seq (.reg [] [.o 30 (.mv (.k 1)),
 .o 31 (.callp n_net_New [.k 30]),
 .o 32 (.ex false 0 31),
 .o 33 (.ex false 1 31),
 .o 34 (.mi t_net_Net (.k 32)),
 .o 4 (.mv (.k 34)),
 .o 5 (.mv (.k 33))] false [4,5] [])
 .ret)
 .skip))))))))))
 (.seq (.reg [] [.o 4 (.mv (.c (.nili))),
 .o 5 (.mv (.c (.i .i64 6)))] false [4,5] [])
 .ret)))⟩

def F_op_Op_Check : F := ⟨2,[.inl 4],
 (.seq (.reg [] [.o 2 (.bx (.k 0)),
 .o 4 (.mv (.c (.i .i64 0)))] false [1,2] [2])
 (.seq (.seq (.reg [] [.o 7 (.mv (.k 1)),
 .o 8 (.call n_op_Of [.k 7]),
 .o 9 (.len false (.t 8)),
 .o 10 (.mv (.c (.i .i64 0)))] false [2,8,9,10] [2])
 (.blk 0 (.loop (.seq (.reg [] [.o 11 (.bin .lss (.t 10) (.t 9))] false [2,8,9,10,11] [2])
 (.seq (.cond 11 .skip
 (.exit 0))
 (.seq (.blk 1 (.seq (.reg [] [.o 12 (.ia 1 none (.t 8) (.t 10)),
 .o 13 (.ld false 1 .cp (.k 12)),
 .o 6 (.mv (.k 13))] false [2,6,8,9,10] [2])
 (.seq (.seq (.reg [] [.o 14 (.mv (.t 6)),
 .o 15 (.fa 0 (.t 2)),
 .o 16 (.ld false 1 .cp (.k 15)),
 .o 17 (.bin .neq (.k 14) (.k 16))] false [2,6,8,9,10,17] [2])
 (.cond 17 (.exit 1)
 .skip))
 (.seq (.seq (.reg [] [.o 18 (.mv (.k 6)),
 .o 19 (.bin .eql (.k 18) (.c (.i .i64 5))),
 .o 20 (.mv (.k 19)),
 .c 20 true 21 (.fa 1 (.t 2)),
 .c 20 true 22 (.fa 1 (.k 21)),
 .c 20 true 23 (.ld false 1 .cp (.k 22)),
 .c 20 true 24 (.bin .lss (.k 23) (.c (.i .i64 0))),
 .c 20 true 25 (.mv (.k 24)),
 .c 25 false 26 (.fa 1 (.k 2)),
 .c 25 false 27 (.fa 1 (.k 26)),
 .c 25 false 28 (.ld false 1 .cp (.k 27)),
 .c 25 false 29 (.bin .gtr (.k 28) (.c (.i .i64 4294967296))),
 .c 20 true 30 (.pick (.k 25) (.c (.b true)) (.k 29)),
 .o 31 (.pick (.k 20) (.k 30) (.c (.b false)))] false [31] [])
 (.cond 31 (.seq (.reg [] [.o 4 (.mv (.c (.i .i64 4)))] false [4] [])
 .ret)
 .skip))
 (.seq (.reg [] [.o 4 (.mv (.c (.i .i64 0)))] false [4] [])
 .ret)))))
 (.reg [] [.o 32 (.bin .add (.k 10) (.c (.i .i64 1))),
 .o 10 (.mv (.k 32))] false [2,8,9,10] [2])))))))
 (.seq (.reg [] [.o 4 (.mv (.c (.i .i64 6)))] false [4] [])
 .ret)))⟩

def F_pile_Item_Canon : F := ⟨1,[.inr (2,true,2)],
 (.seq (.reg [] [.o 1 (.bx (.k 0)),
 .o 2 (.al ([.f .f64 0,.i .i64 0]))] false [1,2] [1,2])
 (.seq (.reg [] [.o 3 (.fa 0 (.t 1)),
 .o 4 (.ld false 1 .cp (.k 3)),
 .o 5 (.call n_real_Canon [.k 4]),
 .u 6 (.fa 1 (.t 1)) [0,1,2] 0,
 .u 7 (.ld false 1 .cp (.k 6)) [0,1,2] 0,
 .o 8 (.bd ([.f .f64 0,.i .i64 0]) [(0,1,.k 5),(1,1,.k 7)]),
 .s (.st 2 (.t 2) (.k 8))] true [2] [2])
 .ret))⟩

def F_container_heap_Init : F := ⟨1,[],
 (.seq (.reg [] [.o 4 (.mv (.t 0)),
 .o 5 (.inv "Len" (.k 4) []),
 .o 2 (.mv (.k 5))] false [0,2] [])
 (.seq (.reg [] [.o 6 (.mv (.t 2)),
 .o 7 (.bin .quo (.k 6) (.c (.i .i64 2))),
 .o 8 (.bin .sub (.k 7) (.c (.i .i64 1))),
 .o 3 (.mv (.k 8))] false [0,2,3] [])
 (.blk 0 (.loop (.seq (.seq (.reg [] [.o 9 (.mv (.t 3)),
 .o 10 (.bin .geq (.k 9) (.c (.i .i64 0)))] false [0,2,3,10] [])
 (.cond 10 .skip
 (.exit 0)))
 (.seq (.blk 1 (.reg [] [.o 13 (.mv (.t 0)),
 .o 14 (.mv (.t 3)),
 .o 15 (.mv (.t 2)),
 .o 16 (.call n_container_heap_down [.k 13,.k 14,.k 15])] false [0,2,3] []))
 (.reg [] [.o 11 (.mv (.k 3)),
 .o 12 (.bin .sub (.k 11) (.c (.i .i64 1))),
 .o 3 (.mv (.k 12))] false [0,2,3] [])))))))⟩

def F_pile_Pile_Take : F := ⟨1,[.inr (2,true,2),.inl 3],
 (.seq (.reg [] [.o 2 (.al ([.f .f64 0,.i .i64 0])),
 .o 3 (.mv (.c (.b false)))] false [0,2] [2])
 (.seq (.seq (.reg [] [.o 4 (.mv (.t 0)),
 .o 5 (.nc (.k 4)),
 .o 6 (.fa 0 (.k 5)),
 .z 7 (.lda 1 (.k 6)) 1,
 .o 8 (.len false (.k 7)),
 .o 9 (.bin .eql (.k 8) (.c (.i .i64 0)))] false [0,2,9] [2])
 (.cond 9 (.seq (.reg [] [.o 10 (.bd ([.f .f64 0,.i .i64 0]) []),
 .s (.st 2 (.t 2) (.k 10)),
 .o 3 (.mv (.c (.b false)))] false [2,3] [2])
 .ret)
 .skip))
 (.seq (.reg [] [.o 11 (.mv (.k 0)),
 .o 12 (.nc (.k 11)),
 .o 13 (.fa 0 (.k 12)),
 .o 14 (.mi t_pile_items_u (.k 13)),
 .o 15 (.call n_container_heap_Pop [.k 14]),
 .o 16 (.ta t_pile_Item (.k 15)),
 .s (.st 2 (.t 2) (.k 16)),
 .o 3 (.mv (.c (.b true)))] false [2,3] [2])
 .ret)))⟩

def F_c_law03_F : F := ⟨1,[.inl 2],
 (.seq (.reg [] [.o 2 (.mv (.c (.f .f64 0)))] false [0] [])
 (.seq (.reg [] [.o 3 (.mv (.k 0)),
 .o 4 (.frbits (.k 3)),
 .o 2 (.mv (.k 4))] false [2] [])
 .ret))⟩

def F_cell_Memory_Write : F := ⟨4,[.inl 8],
 (.seq (.reg [.zz 3] [.o 7 (.bx (.k 3)),
 .o 8 (.mv (.c (.b false)))] false [0,1,2,7] [7])
 (.seq (.seq (.reg [] [.o 9 (.mv (.t 1)),
 .o 10 (.bin .lss (.k 9) (.c (.i .i64 0))),
 .o 11 (.mv (.k 10)),
 .c 11 false 12 (.mv (.t 1)),
 .c 11 false 13 (.bin .geq (.k 12) (.c (.i .i64 1000))),
 .o 14 (.pick (.k 11) (.c (.b true)) (.k 13)),
 .o 15 (.mv (.k 14)),
 .c 15 false 16 (.mv (.t 0)),
 .c 15 false 17 (.mv (.t 1)),
 .c 15 false 18 (.call n_cell_Memory_Read [.k 16,.k 17]),
 .c 15 false 19 (.fd false 0 1 (.k 18)),
 .c 15 false 20 (.mv (.k 2)),
 .c 15 false 21 (.bin .neq (.k 19) (.k 20)),
 .o 22 (.pick (.k 15) (.c (.b true)) (.k 21))] false [0,1,7,22] [7])
 (.cond 22 (.seq (.reg [] [.o 8 (.mv (.c (.b false)))] false [8] [])
 .ret)
 .skip))
 (.seq (.blk 0 (.loop (.seq (.seq (.reg [] [.o 23 (.mv (.t 0)),
 .o 24 (.nc (.k 23)),
 .o 25 (.fa 0 (.k 24)),
 .z 26 (.lda 1 (.k 25)) 1,
 .o 27 (.len false (.k 26)),
 .o 28 (.mv (.t 1)),
 .o 29 (.bin .leq (.k 27) (.k 28))] false [0,1,7,29] [7])
 (.cond 29 .skip
 (.exit 0)))
 (.blk 1 (.reg [] [.o 30 (.mv (.t 0)),
 .o 31 (.mv (.t 0)),
 .o 32 (.nc (.k 31)),
 .o 33 (.fa 0 (.k 32)),
 .o 34 (.ld false 1 .tk (.k 33)),
 .o 35 (.bd ([.i .u64 0,.i .i64 0,.l .o 2 []]) []),
 .o 36 (.bs 3 1 (.a ([.i .u64 0,.i .i64 0,.l .o 2 []])) [(0,.k 35)]),
 .o 37 (.app 3 40 (.k 34) (.k 36)),
 .o 38 (.nc (.k 30)),
 .o 39 (.fa 0 (.k 38)),
 .s (.st 1 (.k 39) (.k 37))] false [0,1,7] [7])))))
 (.seq (.reg [] [.o 40 (.mv (.t 0)),
 .o 41 (.nc (.t 40)),
 .o 42 (.fa 1 (.k 41)),
 .o 43 (.ld false 1 .cp (.k 42)),
 .o 44 (.bin .add (.k 43) (.c (.i .u64 1))),
 .o 45 (.nc (.k 40)),
 .o 46 (.fa 1 (.k 45)),
 .s (.st 1 (.k 46) (.k 44))] false [0,1,7] [7])
 (.seq (.reg [] [.o 47 (.mv (.t 0)),
 .o 48 (.nc (.k 47)),
 .o 49 (.fa 0 (.k 48)),
 .o 50 (.lda 1 (.k 49)),
 .u 51 (.mv (.k 1)) [0,1,2,3] 0,
 .u 52 (.mv (.t 0)) [0,1,2,3,4] 0,
 .u 53 (.nc (.k 52)) [0,1,2,3,4] 0,
 .u 54 (.fa 1 (.k 53)) [0,1,2,3,4] 0,
 .u 55 (.ld false 1 .cp (.k 54)) [0,1,2,3,4] 0,
 .u 56 (.ld true 2 .cp (.k 7)) [0,1,2,3,4,5,6,7,8] 2,
 .u 57 (.callp n_cell_Value_Clone [.k 56]) [0,1,2,3,4,5,6,7,8] 0,
 .u 58 (.bd ([.i .u64 0,.i .i64 0,.l .o 2 []]) [(0,1,.k 55),(1,2,.k 57)]) [0,1,2,3,4] 0,
 .o 59 (.ia 3 none (.k 50) (.k 51)),
 .s (.st 3 (.k 59) (.k 58))] true [] [])
 (.seq (.reg [] [.o 8 (.mv (.c (.b true)))] false [8] [])
 .ret))))))⟩

def F_wire_Make : F := ⟨1,[.inr (2,true,3),.inl 3],
 (.seq (.reg [] [.o 2 (.al ([.i .i64 0,.l .o 2 [],.l .o 1 []])),
 .o 3 (.mv (.c (.i .i64 0)))] false [0,2] [2])
 (.seq (.seq (.reg [] [.o 8 (.mv (.t 0)),
 .o 9 (.call n_op_Legal [.c (.i .i64 4),.k 8]),
 .o 4 (.mv (.k 9))] false [0,2,4] [2])
 (.seq (.reg [] [.o 10 (.mv (.t 4)),
 .o 11 (.bin .neq (.k 10) (.c (.i .i64 0)))] false [0,2,4,11] [2])
 (.cond 11 (.seq (.reg [] [.o 12 (.bd ([.i .i64 0,.l .o 2 [],.l .o 1 []]) []),
 .o 13 (.mv (.k 4)),
 .s (.st 3 (.t 2) (.k 12)),
 .o 3 (.mv (.k 13))] false [2,3] [2])
 .ret)
 .skip)))
 (.seq (.reg [] [.o 14 (.mv (.t 0)),
 .o 15 (.bd ([.i .i64 0,.l .o 2 [],.l .o 1 []]) [(0,1,.k 14)]),
 .o 5 (.ag ([.i .i64 0,.l .o 2 [],.l .o 1 []])),
 .s (.st 3 (.t 5) (.k 15))] false [0,2,5] [2])
 (.seq (.reg [] [.o 16 (.mv (.k 0)),
 .o 17 (.ms 1 8 (.i .i64 0) (.t 16) (.t 16)),
 .o 6 (.mv (.k 17))] false [2,5,6] [2,6])
 (.seq (.seq (.reg [.thaw 6] [.o 18 (.mv (.t 6)),
 .o 19 (.len false (.k 18)),
 .o 20 (.mv (.c (.i .i64 0)))] false [2,5,6,19,20] [2,6])
 (.blk 0 (.loop (.seq (.reg [] [.o 21 (.bin .lss (.t 20) (.t 19))] false [2,5,6,19,20,21] [2,6])
 (.seq (.cond 21 .skip
 (.exit 0))
 (.seq (.blk 1 (.seq (.reg [] [.o 22 (.mv (.t 20)),
 .o 7 (.mv (.k 22))] false [2,5,6,7,19,20] [2,6])
 (.reg [.thaw 6] [.o 23 (.mv (.t 6)),
 .o 24 (.mv (.t 7)),
 .o 25 (.mv (.k 7)),
 .o 26 (.ia 1 none (.k 23) (.k 24)),
 .s (.st 1 (.k 26) (.k 25))] false [2,5,6,19,20] [2,6])))
 (.reg [] [.o 27 (.bin .add (.k 20) (.c (.i .i64 1))),
 .o 20 (.mv (.k 27))] false [2,5,6,19,20] [2,6])))))))
 (.seq (.reg [.unth 6] [.z 28 (.mv (.k 6)) 2,
 .o 29 (.call n_wire_Plan_count [.t 5,.k 28]),
 .o 30 (.fa 2 (.t 5)),
 .s (.st 1 (.k 30) (.k 29))] false [2,5] [2])
 (.seq (.reg [] [.o 31 (.ld true 3 .cp (.k 5)),
 .s (.st 3 (.t 2) (.k 31)),
 .o 3 (.mv (.c (.i .i64 0)))] false [2,3] [2])
 .ret)))))))⟩

def F_real_Key : F := ⟨1,[.inl 2],
 (.seq (.reg [] [.o 2 (.mv (.c (.i .u64 0)))] false [0] [])
 (.seq (.reg [] [.o 4 (.mv (.k 0)),
 .o 5 (.call n_real_Canon [.k 4]),
 .o 6 (.bits (.k 5)),
 .o 3 (.mv (.k 6))] false [3] [])
 (.seq (.seq (.reg [] [.o 7 (.mv (.t 3)),
 .o 8 (.bin .and (.k 7) (.c (.i .u64 9223372036854775808))),
 .o 9 (.bin .neq (.k 8) (.c (.i .u64 0)))] false [3,9] [])
 (.cond 9 (.seq (.reg [] [.o 10 (.mv (.k 3)),
 .o 11 (.un .xor (.k 10)),
 .o 2 (.mv (.k 11))] false [2] [])
 .ret)
 .skip))
 (.seq (.reg [] [.o 12 (.mv (.k 3)),
 .o 13 (.bin .or (.k 12) (.c (.i .u64 9223372036854775808))),
 .o 2 (.mv (.k 13))] false [2] [])
 .ret))))⟩

def F_c_ref03_Bits : F := ⟨1,[.inl 2],
 (.seq (.reg [] [.o 2 (.mv (.c (.i .u64 0)))] false [0] [])
 (.seq (.seq (.reg [] [.o 3 (.mv (.t 0)),
 .o 4 (.bin .rem (.k 3) (.c (.i .u64 9223372036854775808))),
 .o 5 (.bin .gtr (.k 4) (.c (.i .u64 9218868437227405312)))] false [0,5] [])
 (.cond 5 (.seq (.reg [] [.o 2 (.mv (.c (.i .u64 9221120237041090560)))] false [2] [])
 .ret)
 .skip))
 (.seq (.reg [] [.o 6 (.mv (.k 0)),
 .o 2 (.mv (.k 6))] false [2] [])
 .ret)))⟩

def F_c_ref13_Busy : F := ⟨1,[.inl 2],
 (.seq (.reg [.zz 0] [.o 1 (.bx (.k 0)),
 .o 2 (.mv (.c (.l .o 1 [])))] false [1] [1])
 (.seq (.reg [] [.z 6 (.bs 1 0 (.i .i64 0) []) 1,
 .o 3 (.mv (.k 6))] false [1,3] [1])
 (.seq (.seq (.reg [] [.o 7 (.fa 3 (.k 1)),
 .o 8 (.ld false 1 .tk (.k 7)),
 .o 9 (.len false (.t 8)),
 .o 10 (.mv (.c (.i .i64 0)))] false [3,8,9,10] [])
 (.blk 0 (.loop (.seq (.reg [] [.o 11 (.bin .lss (.t 10) (.t 9))] false [3,8,9,10,11] [])
 (.seq (.cond 11 .skip
 (.exit 0))
 (.seq (.blk 1 (.seq (.reg [] [.o 12 (.mv (.t 10)),
 .o 13 (.ia 17 none (.t 8) (.t 10)),
 .o 14 (.ld true 17 .cp (.k 13)),
 .o 5 (.al ([.i .i64 0,.i .u64 0,.i .i64 0,.i .i64 0,.i .i64 0,.i .i64 0,.i .i64 0,.i .i64 0,.i .i64 0,.i .i64 0,.b false,.i .i64 0,.i .i64 0,.i .i64 0,.l .o 2 [],.i .i64 0,.l .o 2 []])),
 .o 4 (.mv (.k 12)),
 .s (.st 17 (.t 5) (.k 14))] false [3,4,5,8,9,10] [5])
 (.seq (.reg [] [.o 15 (.fa 0 (.k 5)),
 .o 16 (.ld false 1 .cp (.k 15)),
 .o 17 (.bin .neq (.k 16) (.c (.i .i64 0)))] false [3,4,8,9,10,17] [])
 (.cond 17 (.reg [] [.o 18 (.mv (.k 3)),
 .o 19 (.mv (.k 4)),
 .o 20 (.bs 1 1 (.i .i64 0) [(0,.k 19)]),
 .z 21 (.app 1 8 (.k 18) (.k 20)) 1,
 .o 3 (.mv (.k 21))] false [3,8,9,10] [])
 .skip))))
 (.reg [] [.o 22 (.bin .add (.k 10) (.c (.i .i64 1))),
 .o 10 (.mv (.k 22))] false [3,8,9,10] [])))))))
 (.seq (.reg [] [.o 23 (.mv (.k 3)),
 .o 2 (.mv (.k 23))] false [2] [])
 .ret))))⟩

def F_c_ref13_Pick : F := ⟨2,[.inr (4,true,5),.inl 5,.inr (6,true,4),.inl 7],
 (.seq (.reg [] [.o 2 (.bx (.k 0)),
 .o 4 (.al ([.i .i64 0,.i .i64 0,.l .o 3 [],.l .x 17 [],.b false])),
 .o 5 (.mv (.c (.i .i64 0))),
 .o 6 (.al ([.b false,.i .u64 0,.i .i64 0,.i .i64 0])),
 .o 7 (.mv (.c (.b false)))] false [1,2,4,6] [2,4,6])
 (.seq (.reg [.fzo 2] [.z 14 (.ld true 5 .cp (.t 2)) 2,
 .o 15 (.call n_c_ref13_Busy [.k 14]),
 .o 8 (.mv (.k 15))] false [1,2,4,6,8] [2,4,6])
 (.seq (.seq (.reg [] [.o 16 (.mv (.t 8)),
 .o 17 (.len false (.k 16)),
 .o 18 (.bin .eql (.k 17) (.c (.i .i64 0)))] false [1,2,4,6,8,18] [2,4,6])
 (.cond 18 (.seq (.reg [] [.o 19 (.ld true 5 .tk (.k 2)),
 .o 20 (.bd ([.b false,.i .u64 0,.i .i64 0,.i .i64 0]) []),
 .s (.st 5 (.t 4) (.k 19)),
 .o 5 (.mv (.c (.i .i64 (-1)))),
 .s (.st 4 (.t 6) (.k 20)),
 .o 7 (.mv (.c (.b false)))] false [4,5,6,7] [4,6])
 .ret)
 .skip))
 (.seq (.reg [] [.o 21 (.mv (.t 8)),
 .o 22 (.mv (.k 1)),
 .o 23 (.mv (.k 8)),
 .o 24 (.len false (.k 23)),
 .o 25 (.call n_c_ref06_Into [.k 22,.k 24]),
 .o 26 (.ia 1 none (.k 21) (.k 25)),
 .o 27 (.ld false 1 .cp (.k 26)),
 .o 9 (.mv (.k 27))] false [2,4,6,9] [2,4,6])
 (.seq (.reg [] [.o 29 (.fa 0 (.t 2)),
 .o 30 (.ld false 1 .cp (.k 29)),
 .u 31 (.fa 1 (.t 2)) [0,1] 0,
 .u 32 (.ld false 1 .cp (.k 31)) [0,1] 0,
 .u 33 (.fa 2 (.t 2)) [0,1,2,3] 0,
 .u 34 (.ld true 1 .cp (.k 33)) [0,1,2,3] 2,
 .u 35 (.fa 3 (.t 2)) [0,1,2,3,4,5] 0,
 .u 36 (.lda 1 (.k 35)) [0,1,2,3,4,5] 1,
 .u 37 (.mv (.t 9)) [0,1,2,3,4,5,6,7] 0,
 .u 38 (.ia 17 none (.k 36) (.k 37)) [0,1,2,3,4,5] 0,
 .u 39 (.ld true 17 .cp (.k 38)) [0,1,2,3,4,5] 2,
 .o 40 (.call n_c_ref12_Step [.k 30,.k 32,.k 34,.k 39]),
 .o 28 (.mv (.k 40)),
 .o 41 (.ex false 0 28),
 .u 42 (.ex false 1 28) [13] 0,
 .u 43 (.ex false 2 28) [13,14] 0,
 .u 44 (.ex false 3 28) [13,14,15] 0,
 .u 10 (.al ([.l .o 3 []])) [0,1,2,3,4,5,6,7,8,9,10,11,12,13,14,15,16] 0,
 .u 11 (.al ([.i .i64 0,.i .u64 0,.i .i64 0,.i .i64 0,.i .i64 0,.i .i64 0,.i .i64 0,.i .i64 0,.i .i64 0,.i .i64 0,.b false,.i .i64 0,.i .i64 0,.i .i64 0,.l .o 2 [],.i .i64 0,.l .o 2 []])) [0,1,2,3,4,5,6,7,8,9,10,11,12,13,14,15,16,17] 0,
 .u 12 (.al ([.b false,.i .u64 0,.i .i64 0,.i .i64 0])) [0,1,2,3,4,5,6,7,8,9,10,11,12,13,14,15,16,17,18] 0,
 ⟨none,none,.st 1 (.t 10) (.k 41),[14,15,16],0⟩,
 ⟨none,none,.st 17 (.t 11) (.k 42),[15,16],0⟩,
 ⟨none,none,.st 4 (.t 12) (.k 43),[16],0⟩,
 .o 13 (.mv (.k 44))] true [2,4,6,9,10,11,12,13] [2,4,6,10,11,12])
 (.seq (.seq (.reg [] [.o 45 (.mv (.t 13))] false [2,4,6,9,10,11,12,13,45] [2,4,6,10,11,12])
 (.cond 45 (.reg [] [.o 46 (.bd ([.i .i64 0,.i .u64 0,.i .i64 0,.i .i64 0,.i .i64 0,.i .i64 0,.i .i64 0,.i .i64 0,.i .i64 0,.i .i64 0,.b false,.i .i64 0,.i .i64 0,.i .i64 0,.l .o 2 [],.i .i64 0,.l .o 2 []]) []),
 .s (.st 17 (.t 11) (.k 46))] false [2,4,6,9,10,11,12,13] [2,4,6,10,11,12])
 .skip))
 (.seq (.reg [] [.o 47 (.ld true 1 .tk (.k 10)),
 .o 48 (.fa 2 (.t 2)),
 .s (.st 1 (.k 48) (.k 47))] false [2,4,6,9,11,12,13] [2,4,6,11,12])
 (.seq (.reg [] [.o 49 (.bs 17 0 (.a ([.i .i64 0,.i .u64 0,.i .i64 0,.i .i64 0,.i .i64 0,.i .i64 0,.i .i64 0,.i .i64 0,.i .i64 0,.i .i64 0,.b false,.i .i64 0,.i .i64 0,.i .i64 0,.l .o 2 [],.i .i64 0,.l .o 2 []])) []),
 .o 50 (.fa 3 (.t 2)),
 .z 51 (.lda 1 (.k 50)) 1,
 .o 52 (.app 17 168 (.k 49) (.k 51)),
 .o 53 (.fa 3 (.t 2)),
 .s (.st 1 (.k 53) (.k 52))] false [2,4,6,9,11,12,13] [2,4,6,11,12])
 (.seq (.reg [] [.o 54 (.fa 3 (.t 2)),
 .o 55 (.lda 1 (.k 54)),
 .o 56 (.mv (.t 9)),
 .o 57 (.ld true 17 .tk (.k 11)),
 .o 58 (.ia 17 none (.k 55) (.k 56)),
 .s (.st 17 (.k 58) (.k 57))] false [2,4,6,9,12,13] [2,4,6,12])
 (.seq (.reg [.fzo 2] [.o 59 (.ld true 5 .cp (.k 2)),
 .u 60 (.mv (.k 9)) [0] 0,
 .u 61 (.ld true 4 .cp (.k 12)) [0,1] 0,
 .u 62 (.mv (.k 13)) [0,1,2] 0,
 ⟨none,none,.st 5 (.t 4) (.k 59),[1,2,3],0⟩,
 .u 5 (.mv (.k 60)) [2,3] 0,
 ⟨none,none,.st 4 (.t 6) (.k 61),[3],0⟩,
 .o 7 (.mv (.k 62))] true [4,5,6,7] [4,6])
 .ret))))))))))⟩

def F_c_ref16_step : F := ⟨2,[.inr (4,true,18)],
 (.seq (.reg [] [.o 2 (.bx (.k 0)),
 .o 4 (.al ([.i .i64 0,.i .i64 0,.l .o 3 [],.l .x 17 [],.b false,.b false,.b false,.b false,.b false,.i .i64 0,.i .i64 0,.i .i64 0,.i .i64 0,.l .o 4 [],.b false,.l .o 4 [],.i .i64 0,.b false]))] false [1,2,4] [2,4])
 (.seq (.seq (.reg [] [.o 10 (.fa 7 (.t 2)),
 .o 11 (.ld false 1 .cp (.k 10)),
 .o 12 (.mv (.k 11)),
 .c 12 true 13 (.mv (.k 1)),
 .c 12 true 14 (.bin .gtr (.k 13) (.c (.i .i64 0))),
 .o 15 (.pick (.k 12) (.k 14) (.c (.b false)))] false [2,4,15] [2,4])
 (.cond 15 (.seq (.reg [] [.o 16 (.ld true 18 .tk (.k 2)),
 .s (.st 18 (.t 4) (.k 16))] false [4] [4])
 .ret)
 .skip))
 (.seq (.seq (.reg [] [.o 17 (.fa 6 (.t 2)),
 .o 18 (.ld false 1 .cp (.k 17)),
 .o 19 (.un .not (.k 18))] false [2,4,19] [2,4])
 (.cond 19 (.seq (.reg [.fzo 2] [.z 20 (.ld true 18 .cp (.t 2)) 2,
 .o 21 (.fa 13 (.t 2)),
 .o 22 (.ld false 1 .cp (.k 21)),
 .o 23 (.len false (.k 22)),
 .o 24 (.call n_c_ref16_cell [.k 20,.k 23]),
 .o 5 (.mv (.k 24))] false [2,4,5] [2,4])
 (.seq (.reg [] [.o 26 (.fa 0 (.t 2)),
 .o 27 (.fa 2 (.k 26)),
 .z 28 (.ld true 1 .cp (.k 27)) 2,
 .o 29 (.mv (.t 5)),
 .o 30 (.call n_c_ref05_Read [.k 28,.k 29]),
 .o 25 (.mv (.k 30)),
 .o 31 (.ex false 0 25),
 .o 32 (.ex false 1 25),
 .o 7 (.al ([.i .i64 0,.l .o 2 []])),
 .o 6 (.mv (.k 31)),
 .s (.st 2 (.t 7) (.k 32))] false [2,4,5,6,7] [2,4,7])
 (.seq (.reg [] [.z 33 (.bs 4 0 (.a ([.i .i64 0,.i .i64 0,.i .i64 0,.l .o 2 []])) []) 1,
 .u 34 (.fa 13 (.t 2)) [0] 0,
 .u 35 (.ld false 1 .cp (.k 34)) [0] 0,
 .z 36 (.app 4 48 (.k 33) (.k 35)) 1,
 .u 37 (.mv (.k 5)) [0,1,2,3] 0,
 .u 38 (.mv (.k 6)) [0,1,2,3,4] 0,
 .u 39 (.ld true 2 .cp (.k 7)) [0,1,2,3,4,5] 0,
 .u 40 (.bd ([.i .i64 0,.i .i64 0,.i .i64 0,.l .o 2 []]) [(0,1,.k 37),(1,1,.k 38),(2,2,.k 39)]) [0,1,2,3] 0,
 .u 41 (.bs 4 1 (.a ([.i .i64 0,.i .i64 0,.i .i64 0,.l .o 2 []])) [(0,.k 40)]) [0,1,2,3] 0,
 .z 42 (.app 4 48 (.k 36) (.k 41)) 1,
 .o 43 (.fa 13 (.t 2)),
 .s (.st 1 (.k 43) (.k 42))] true [2,4] [2,4])
 (.seq (.seq (.reg [.fzo 2] [.z 44 (.ld true 18 .cp (.t 2)) 2,
 .o 45 (.fa 13 (.t 2)),
 .o 46 (.ld false 1 .cp (.k 45)),
 .o 47 (.len false (.k 46)),
 .o 48 (.call n_c_ref16_cell [.k 44,.k 47]),
 .o 49 (.bin .geq (.k 48) (.c (.i .i64 0)))] false [2,4,49] [2,4])
 (.cond 49 (.seq (.reg [] [.o 50 (.ld true 18 .tk (.k 2)),
 .s (.st 18 (.t 4) (.k 50))] false [4] [4])
 .ret)
 .skip))
 (.seq (.reg [] [.o 51 (.fa 6 (.t 2)),
 .s (.st 1 (.k 51) (.c (.b true))),
 .o 52 (.fa 11 (.t 2)),
 .s (.st 1 (.k 52) (.c (.i .i64 0)))] false [2,4] [2,4])
 (.seq (.seq (.reg [] [.o 53 (.fa 7 (.t 2)),
 .o 54 (.ld false 1 .cp (.k 53))] false [2,4,54] [2,4])
 (.cond 54 (.seq (.reg [] [.o 55 (.ld true 18 .tk (.k 2)),
 .o 56 (.call n_c_ref16_finish [.k 55]),
 .s (.st 18 (.t 4) (.k 56))] false [4] [4])
 .ret)
 .skip))
 (.seq (.reg [] [.o 57 (.ld true 18 .tk (.k 2)),
 .s (.st 18 (.t 4) (.k 57))] false [4] [4])
 .ret)))))))
 .skip))
 (.seq (.reg [] [.o 59 (.fa 0 (.t 2)),
 .o 60 (.fa 2 (.k 59)),
 .z 61 (.ld true 1 .cp (.k 60)) 2,
 .u 62 (.fa 13 (.t 2)) [0,1,2] 0,
 .u 63 (.ld false 1 .cp (.k 62)) [0,1,2] 0,
 .u 64 (.fa 11 (.t 2)) [0,1,2,3,4] 0,
 .u 65 (.ld false 1 .cp (.k 64)) [0,1,2,3,4] 0,
 .u 66 (.ia 4 none (.k 63) (.k 65)) [0,1,2] 0,
 .u 67 (.fa 0 (.k 66)) [0,1,2] 0,
 .u 68 (.ld false 1 .cp (.k 67)) [0,1,2] 0,
 .o 69 (.call n_c_ref05_Read [.k 61,.k 68]),
 .o 58 (.mv (.k 69)),
 .o 70 (.ex false 0 58),
 .u 71 (.ex false 1 58) [12] 0,
 .u 9 (.al ([.i .i64 0,.l .o 2 []])) [0,1,2,3,4,5,6,7,8,9,10,11,12,13] 0,
 .u 8 (.mv (.k 70)) [13] 0,
 .s (.st 2 (.k 9) (.k 71))] true [2,4,8] [2,4])
 (.seq (.seq (.reg [] [.o 72 (.mv (.k 8)),
 .o 73 (.fa 13 (.t 2)),
 .o 74 (.ld false 1 .cp (.k 73)),
 .o 75 (.fa 11 (.t 2)),
 .o 76 (.ld false 1 .cp (.k 75)),
 .o 77 (.ia 4 none (.k 74) (.k 76)),
 .o 78 (.fa 1 (.k 77)),
 .o 79 (.ld false 1 .cp (.k 78)),
 .o 80 (.bin .eql (.k 72) (.k 79))] false [2,4,80] [2,4])
 (.cond 80 (.seq (.reg [] [.o 81 (.fa 11 (.t 2)),
 .o 82 (.ld false 1 .cp (.k 81)),
 .o 83 (.bin .add (.k 82) (.c (.i .i64 1))),
 .o 84 (.fa 11 (.t 2)),
 .s (.st 1 (.k 84) (.k 83))] false [2,4] [2,4])
 (.seq (.seq (.reg [] [.o 85 (.fa 11 (.t 2)),
 .o 86 (.ld false 1 .cp (.k 85)),
 .o 87 (.fa 13 (.t 2)),
 .o 88 (.ld false 1 .cp (.k 87)),
 .o 89 (.len false (.k 88)),
 .o 90 (.bin .eql (.k 86) (.k 89))] false [2,4,90] [2,4])
 (.cond 90 (.seq (.reg [] [.o 91 (.ld true 18 .tk (.k 2)),
 .o 92 (.call n_c_ref16_finish [.k 91]),
 .s (.st 18 (.t 4) (.k 92))] false [4] [4])
 .ret)
 .skip))
 (.seq (.reg [] [.o 93 (.ld true 18 .tk (.k 2)),
 .s (.st 18 (.t 4) (.k 93))] false [4] [4])
 .ret)))
 .skip))
 (.seq (.reg [] [.z 94 (.bs 4 0 (.a ([.i .i64 0,.i .i64 0,.i .i64 0,.l .o 2 []])) []) 1,
 .o 95 (.fa 13 (.t 2)),
 .s (.st 1 (.k 95) (.k 94)),
 .o 96 (.fa 6 (.t 2)),
 .s (.st 1 (.k 96) (.c (.b false)))] false [2,4] [2,4])
 (.seq (.reg [] [.o 97 (.fa 10 (.t 2)),
 .o 98 (.ld false 1 .cp (.k 97)),
 .o 99 (.bin .sub (.k 98) (.c (.i .i64 1))),
 .o 100 (.fa 10 (.t 2)),
 .s (.st 1 (.k 100) (.k 99))] false [2,4] [2,4])
 (.seq (.seq (.reg [] [.o 101 (.fa 10 (.t 2)),
 .o 102 (.ld false 1 .cp (.k 101)),
 .o 103 (.bin .eql (.k 102) (.c (.i .i64 0)))] false [2,4,103] [2,4])
 (.cond 103 (.seq (.reg [] [.o 104 (.fa 0 (.t 2)),
 .o 105 (.fa 4 (.k 104)),
 .o 106 (.ld false 1 .cp (.k 105)),
 .o 107 (.fa 7 (.t 2)),
 .s (.st 1 (.k 107) (.c (.b true))),
 .o 108 (.fa 8 (.t 2)),
 .s (.st 1 (.k 108) (.k 106))] false [2,4] [2,4])
 (.reg [] [.o 109 (.fa 0 (.t 2)),
 .o 110 (.fa 4 (.k 109)),
 .s (.st 1 (.k 110) (.c (.b true)))] false [2,4] [2,4]))
 .skip))
 (.seq (.reg [] [.o 111 (.ld true 18 .tk (.k 2)),
 .s (.st 18 (.t 4) (.k 111))] false [4] [4])
 .ret)))))))))⟩

def F_c_law04_Is : F := ⟨2,[.inl 4],
 (.seq (.reg [] [.o 2 (.bx (.k 0)),
 .o 3 (.bx (.k 1)),
 .o 4 (.mv (.c (.i .i64 0)))] false [2,3] [2,3])
 (.seq (.seq (.reg [] [.o 5 (.fa 0 (.t 2)),
 .o 6 (.ld false 1 .cp (.k 5)),
 .o 7 (.bits (.k 6)),
 .u 8 (.fa 0 (.t 3)) [0,1,2] 0,
 .u 9 (.ld false 1 .cp (.k 8)) [0,1,2] 0,
 .o 10 (.bin .neq (.k 7) (.k 9)),
 .o 11 (.mv (.k 10)),
 .c 11 false 12 (.fa 1 (.t 2)),
 .c 11 false 13 (.ld false 1 .cp (.k 12)),
 ⟨some 14,some (11,false),.fa 1 (.t 3),[7,8],0⟩,
 ⟨some 15,some (11,false),.ld false 1 .cp (.k 14),[7,8],0⟩,
 .c 11 false 16 (.bin .neq (.k 13) (.k 15)),
 .o 17 (.pick (.t 11) (.c (.b true)) (.k 16))] true [17] [])
 (.cond 17 (.seq (.reg [] [.o 4 (.mv (.c (.i .i64 (-1))))] false [4] [])
 .ret)
 .skip))
 (.seq (.reg [] [.o 4 (.mv (.c (.i .i64 0)))] false [4] [])
 .ret)))⟩

def F_engine_Engine_Kind : F := ⟨1,[.inl 2],
 (.seq (.reg [] [.o 2 (.mv (.c (.i .i64 0)))] false [0] [])
 (.seq (.reg [] [.o 3 (.mv (.k 0)),
 .o 4 (.nc (.k 3)),
 .o 5 (.fa 0 (.k 4)),
 .o 6 (.ld false 1 .cp (.k 5)),
 .o 2 (.mv (.k 6))] false [2] [])
 .ret))⟩

def F_engine_Engine_Param : F := ⟨1,[.inl 2],
 (.seq (.reg [] [.o 2 (.mv (.c (.i .i64 0)))] false [0] [])
 (.seq (.reg [] [.o 3 (.mv (.k 0)),
 .o 4 (.nc (.k 3)),
 .o 5 (.fa 1 (.k 4)),
 .o 6 (.ld false 1 .cp (.k 5)),
 .o 2 (.mv (.k 6))] false [2] [])
 .ret))⟩

def F_scan_scanner_again : F := ⟨1,[],
 (.reg [] [.o 2 (.mv (.t 0)),
 .o 3 (.mv (.k 0)),
 .o 4 (.nc (.k 2)),
 .o 5 (.fa 2 (.k 4)),
 .s (.st 1 (.k 5) (.c (.l .o 4 []))),
 .o 6 (.nc (.k 3)),
 .o 7 (.fa 3 (.k 6)),
 .s (.st 1 (.k 7) (.c (.i .i64 (-1))))] false [] [])⟩

def F_multi_New : F := ⟨1,[.inr (2,true,1),.inl 3],
 (.seq (.reg [] [.o 2 (.al ([.i .i64 0])),
 .o 3 (.mv (.c (.i .i64 0)))] false [0,2] [2])
 (.seq (.seq (.reg [] [.o 5 (.mv (.t 0)),
 .o 6 (.call n_op_Legal [.c (.i .i64 1),.k 5]),
 .o 4 (.mv (.k 6))] false [0,2,4] [2])
 (.seq (.reg [] [.o 7 (.mv (.t 4)),
 .o 8 (.bin .neq (.k 7) (.c (.i .i64 0)))] false [0,2,4,8] [2])
 (.cond 8 (.seq (.reg [] [.o 9 (.bd ([.i .i64 0]) []),
 .o 10 (.mv (.k 4)),
 .s (.st 1 (.t 2) (.k 9)),
 .o 3 (.mv (.k 10))] false [2,3] [2])
 .ret)
 .skip)))
 (.seq (.reg [] [.o 11 (.mv (.k 0)),
 .o 12 (.bd ([.i .i64 0]) [(0,1,.k 11)]),
 .s (.st 1 (.t 2) (.k 12)),
 .o 3 (.mv (.c (.i .i64 0)))] false [2,3] [2])
 .ret)))⟩

def F_kfifo_New : F := ⟨1,[.inr (2,true,1),.inl 3],
 (.seq (.reg [] [.o 2 (.al ([.i .i64 0])),
 .o 3 (.mv (.c (.i .i64 0)))] false [0,2] [2])
 (.seq (.seq (.reg [] [.o 5 (.mv (.t 0)),
 .o 6 (.call n_op_Legal [.c (.i .i64 2),.k 5]),
 .o 4 (.mv (.k 6))] false [0,2,4] [2])
 (.seq (.reg [] [.o 7 (.mv (.t 4)),
 .o 8 (.bin .neq (.k 7) (.c (.i .i64 0)))] false [0,2,4,8] [2])
 (.cond 8 (.seq (.reg [] [.o 9 (.bd ([.i .i64 0]) []),
 .o 10 (.mv (.k 4)),
 .s (.st 1 (.t 2) (.k 9)),
 .o 3 (.mv (.k 10))] false [2,3] [2])
 .ret)
 .skip)))
 (.seq (.reg [] [.o 11 (.mv (.k 0)),
 .o 12 (.bd ([.i .i64 0]) [(0,1,.k 11)]),
 .s (.st 1 (.t 2) (.k 12)),
 .o 3 (.mv (.c (.i .i64 0)))] false [2,3] [2])
 .ret)))⟩

def F_tally_New : F := ⟨1,[.inr (2,true,1),.inl 3],
 (.seq (.reg [] [.o 2 (.al ([.i .i64 0])),
 .o 3 (.mv (.c (.i .i64 0)))] false [0,2] [2])
 (.seq (.seq (.reg [] [.o 5 (.mv (.t 0)),
 .o 6 (.call n_op_Legal [.c (.i .i64 3),.k 5]),
 .o 4 (.mv (.k 6))] false [0,2,4] [2])
 (.seq (.reg [] [.o 7 (.mv (.t 4)),
 .o 8 (.bin .neq (.k 7) (.c (.i .i64 0)))] false [0,2,4,8] [2])
 (.cond 8 (.seq (.reg [] [.o 9 (.bd ([.i .i64 0]) []),
 .o 10 (.mv (.k 4)),
 .s (.st 1 (.t 2) (.k 9)),
 .o 3 (.mv (.k 10))] false [2,3] [2])
 .ret)
 .skip)))
 (.seq (.reg [] [.o 11 (.mv (.k 0)),
 .o 12 (.bd ([.i .i64 0]) [(0,1,.k 11)]),
 .s (.st 1 (.t 2) (.k 12)),
 .o 3 (.mv (.c (.i .i64 0)))] false [2,3] [2])
 .ret)))⟩

def F_op_Of : F := ⟨1,[.inl 2],
 (.seq (.reg [] [.o 2 (.mv (.c (.l .o 1 [])))] false [0] [])
 (.seq (.seq (.reg [] [.o 3 (.mv (.k 0))] false [3] [])
 (.blk 0 (.seq (.reg [] [.o 5 (.bin .eql (.t 3) (.c (.i .i64 1))),
 .o 4 (.mv (.k 5))] false [3,4] [])
 (.cond 4 (.seq (.reg [] [.z 6 (.bs 1 2 (.i .i64 0) [(0,.c (.i .i64 1)),(1,.c (.i .i64 2))]) 1,
 .o 2 (.mv (.k 6))] false [2] [])
 .ret)
 (.seq (.reg [] [.o 8 (.bin .eql (.t 3) (.c (.i .i64 2))),
 .o 7 (.mv (.k 8))] false [3,7] [])
 (.cond 7 (.seq (.reg [] [.z 9 (.bs 1 2 (.i .i64 0) [(0,.c (.i .i64 3)),(1,.c (.i .i64 4))]) 1,
 .o 2 (.mv (.k 9))] false [2] [])
 .ret)
 (.seq (.reg [] [.o 11 (.bin .eql (.t 3) (.c (.i .i64 3))),
 .o 10 (.mv (.k 11))] false [3,10] [])
 (.cond 10 (.seq (.reg [] [.z 12 (.bs 1 2 (.i .i64 0) [(0,.c (.i .i64 5)),(1,.c (.i .i64 6))]) 1,
 .o 2 (.mv (.k 12))] false [2] [])
 .ret)
 (.seq (.reg [] [.o 14 (.bin .eql (.k 3) (.c (.i .i64 4))),
 .o 13 (.mv (.k 14))] false [13] [])
 (.cond 13 (.seq (.reg [] [.z 15 (.bs 1 1 (.i .i64 0) [(0,.c (.i .i64 7))]) 1,
 .o 2 (.mv (.k 15))] false [2] [])
 .ret)
 .skip))))))))))
 (.seq (.reg [] [.o 2 (.mv (.c (.l .o 1 [])))] false [2] [])
 .ret)))⟩

def F_real_Canon : F := ⟨1,[.inl 2],
 (.seq (.reg [] [.o 2 (.mv (.c (.f .f64 0)))] false [0] [])
 (.seq (.seq (.reg [] [.o 3 (.mv (.t 0)),
 .o 4 (.mv (.t 0)),
 .o 5 (.bin .neq (.k 3) (.k 4))] false [0,5] [])
 (.cond 5 (.seq (.reg [] [.o 6 (.frbits (.c (.i .u64 9221120237041090560))),
 .o 2 (.mv (.k 6))] false [2] [])
 .ret)
 .skip))
 (.seq (.reg [] [.o 7 (.mv (.k 0)),
 .o 2 (.mv (.k 7))] false [2] [])
 .ret)))⟩

def F_container_heap_down : F := ⟨3,[.inl 6],
 (.seq (.reg [] [.o 6 (.mv (.c (.b false)))] false [0,1,2] [])
 (.seq (.reg [] [.o 11 (.mv (.t 1)),
 .o 7 (.mv (.k 11))] false [0,1,2,7] [])
 (.seq (.blk 0 (.loop (.blk 1 (.seq (.reg [] [.o 12 (.mv (.t 7)),
 .o 13 (.bin .mul (.c (.i .i64 2)) (.k 12)),
 .o 14 (.bin .add (.k 13) (.c (.i .i64 1))),
 .o 8 (.mv (.k 14))] false [0,1,2,7,8] [])
 (.seq (.seq (.reg [] [.o 15 (.mv (.t 8)),
 .o 16 (.mv (.t 2)),
 .o 17 (.bin .geq (.k 15) (.k 16)),
 .o 18 (.mv (.k 17)),
 .c 18 false 19 (.mv (.t 8)),
 .c 18 false 20 (.bin .lss (.k 19) (.c (.i .i64 0))),
 .o 21 (.pick (.k 18) (.c (.b true)) (.k 20))] false [0,1,2,7,8,21] [])
 (.cond 21 (.exit 0)
 .skip))
 (.seq (.reg [] [.o 22 (.mv (.t 8)),
 .o 9 (.mv (.k 22))] false [0,1,2,7,8,9] [])
 (.seq (.seq (.reg [] [.o 23 (.mv (.t 8)),
 .o 24 (.bin .add (.k 23) (.c (.i .i64 1))),
 .o 10 (.mv (.k 24))] false [0,1,2,7,8,9,10] [])
 (.seq (.reg [] [.o 25 (.mv (.t 10)),
 .o 26 (.mv (.t 2)),
 .o 27 (.bin .lss (.k 25) (.k 26)),
 .o 28 (.mv (.k 27)),
 .c 28 true 29 (.mv (.t 0)),
 .c 28 true 30 (.mv (.t 10)),
 .c 28 true 31 (.mv (.k 8)),
 .c 28 true 32 (.inv "Less" (.k 29) [.k 30,.k 31]),
 .o 33 (.pick (.k 28) (.k 32) (.c (.b false)))] false [0,1,2,7,9,10,33] [])
 (.cond 33 (.reg [] [.o 34 (.mv (.k 10)),
 .o 9 (.mv (.k 34))] false [0,1,2,7,9] [])
 .skip)))
 (.seq (.seq (.reg [] [.o 35 (.mv (.t 0)),
 .o 36 (.mv (.t 9)),
 .o 37 (.mv (.t 7)),
 .o 38 (.inv "Less" (.k 35) [.k 36,.k 37]),
 .o 39 (.un .not (.k 38))] false [0,1,2,7,9,39] [])
 (.cond 39 (.exit 0)
 .skip))
 (.seq (.reg [] [.o 40 (.mv (.t 0)),
 .o 41 (.mv (.k 7)),
 .o 42 (.mv (.t 9)),
 .o 43 (.inv "Swap" (.k 40) [.k 41,.k 42])] false [0,1,2,9] [])
 (.reg [] [.o 44 (.mv (.k 9)),
 .o 7 (.mv (.k 44))] false [0,1,2,7] []))))))))))
 (.seq (.reg [] [.o 45 (.mv (.k 7)),
 .o 46 (.mv (.k 1)),
 .o 47 (.bin .gtr (.k 45) (.k 46)),
 .o 6 (.mv (.k 47))] false [6] [])
 .ret))))⟩

def F_container_heap_Pop : F := ⟨1,[.inl 2],
 (.seq (.reg [] [.o 2 (.mv (.c (.nili)))] false [0] [])
 (.seq (.reg [] [.o 4 (.mv (.t 0)),
 .o 5 (.inv "Len" (.k 4) []),
 .o 6 (.bin .sub (.k 5) (.c (.i .i64 1))),
 .o 3 (.mv (.k 6))] false [0,3] [])
 (.seq (.reg [] [.o 7 (.mv (.t 0)),
 .o 8 (.mv (.t 3)),
 .o 9 (.inv "Swap" (.k 7) [.c (.i .i64 0),.k 8])] false [0,3] [])
 (.seq (.reg [] [.o 10 (.mv (.t 0)),
 .o 11 (.mv (.k 3)),
 .o 12 (.call n_container_heap_down [.k 10,.c (.i .i64 0),.k 11])] false [0] [])
 (.seq (.reg [] [.o 13 (.mv (.k 0)),
 .o 14 (.inv "Pop" (.k 13) []),
 .o 2 (.mv (.k 14))] false [2] [])
 .ret)))))⟩

def F_wire_Plan_count : F := ⟨2,[.inl 4],
 (.seq (.reg [.zz 1] [.o 4 (.mv (.c (.l .o 1 [])))] false [0,1] [])
 (.seq (.reg [] [.o 6 (.mv (.t 1)),
 .o 7 (.len false (.k 6)),
 .o 8 (.bin .quo (.k 7) (.c (.i .i64 2))),
 .o 5 (.mv (.k 8))] false [0,1,5] [])
 (.seq (.seq (.reg [] [.o 9 (.mv (.t 5)),
 .o 10 (.bin .eql (.k 9) (.c (.i .i64 0)))] false [0,1,5,10] [])
 (.cond 10 (.seq (.reg [] [.o 11 (.mv (.k 1)),
 .o 4 (.mv (.k 11))] false [4] [])
 .ret)
 .skip))
 (.seq (.reg [] [.o 12 (.mv (.t 0)),
 .u 13 (.mv (.t 0)) [0] 0,
 .u 14 (.mv (.t 1)) [0,1] 0,
 .u 15 (.mv (.t 5)) [0,1,2] 0,
 .u 16 (.sl 1 (.k 14) none (some (.k 15)) none) [0,1] 2,
 .u 17 (.call n_wire_Plan_count [.k 13,.k 16]) [0] 2,
 .u 18 (.mv (.t 0)) [0,1,2,3,4,5] 0,
 .u 19 (.mv (.t 1)) [0,1,2,3,4,5,6] 0,
 .u 20 (.mv (.t 5)) [0,1,2,3,4,5,6,7] 0,
 .u 21 (.sl 1 (.k 19) (some (.k 20)) none none) [0,1,2,3,4,5,6] 2,
 .u 22 (.call n_wire_Plan_count [.k 18,.k 21]) [0] 2,
 .o 23 (.call n_wire_Plan_merge [.k 12,.k 17,.k 22]),
 .o 4 (.mv (.k 23))] true [4] [])
 .ret))))⟩

def F_c_ref12_Step : F := ⟨4,[.inr (8,true,1),.inr (9,true,17),.inr (10,true,4),.inl 11],
 (.seq (.reg [.zz 2,.zz 3] [.o 6 (.bx (.k 2)),
 .o 7 (.bx (.k 3)),
 .o 8 (.al ([.l .o 3 []])),
 .o 9 (.al ([.i .i64 0,.i .u64 0,.i .i64 0,.i .i64 0,.i .i64 0,.i .i64 0,.i .i64 0,.i .i64 0,.i .i64 0,.i .i64 0,.b false,.i .i64 0,.i .i64 0,.i .i64 0,.l .o 2 [],.i .i64 0,.l .o 2 []])),
 .o 10 (.al ([.b false,.i .u64 0,.i .i64 0,.i .i64 0])),
 .o 11 (.mv (.c (.b false)))] false [0,1,6,7,8,9,10] [6,7,8,9,10])
 (.seq (.seq (.reg [] [.o 12 (.mv (.k 0))] false [1,6,7,8,9,10,12] [6,7,8,9,10])
 (.blk 0 (.seq (.reg [] [.o 14 (.bin .eql (.t 12) (.c (.i .i64 1))),
 .o 13 (.mv (.k 14))] false [1,6,7,8,9,10,12,13] [6,7,8,9,10])
 (.cond 13 (.seq (.reg [] [.z 15 (.ld true 1 .tk (.k 6)) 2,
 .z 16 (.ld true 17 .tk (.k 7)) 2,
 .o 17 (.mv (.k 1)),
 .o 18 (.call n_c_ref08_Step [.k 15,.k 16,.k 17]),
 .o 19 (.ex false 0 18),
 .o 20 (.ex false 1 18),
 .o 21 (.ex false 2 18),
 .o 22 (.ex false 3 18),
 .s (.st 1 (.t 8) (.k 19)),
 .s (.st 17 (.t 9) (.k 20)),
 .s (.st 4 (.t 10) (.k 21)),
 .o 11 (.mv (.k 22))] false [8,9,10,11] [8,9,10])
 .ret)
 (.seq (.reg [] [.o 24 (.bin .eql (.t 12) (.c (.i .i64 2))),
 .o 23 (.mv (.k 24))] false [1,6,7,8,9,10,12,23] [6,7,8,9,10])
 (.cond 23 (.seq (.reg [] [.z 25 (.ld true 1 .tk (.k 6)) 2,
 .z 26 (.ld true 17 .tk (.k 7)) 2,
 .o 27 (.mv (.k 1)),
 .o 28 (.call n_c_ref09_Step [.k 25,.k 26,.k 27]),
 .o 29 (.ex false 0 28),
 .o 30 (.ex false 1 28),
 .o 31 (.ex false 2 28),
 .o 32 (.ex false 3 28),
 .s (.st 1 (.t 8) (.k 29)),
 .s (.st 17 (.t 9) (.k 30)),
 .s (.st 4 (.t 10) (.k 31)),
 .o 11 (.mv (.k 32))] false [8,9,10,11] [8,9,10])
 .ret)
 (.seq (.reg [] [.o 34 (.bin .eql (.k 12) (.c (.i .i64 3))),
 .o 33 (.mv (.k 34))] false [1,6,7,8,9,10,33] [6,7,8,9,10])
 (.cond 33 (.seq (.reg [] [.z 35 (.ld true 1 .tk (.k 6)) 2,
 .z 36 (.ld true 17 .tk (.k 7)) 2,
 .o 37 (.mv (.k 1)),
 .o 38 (.call n_c_ref07_Step [.k 35,.k 36,.k 37]),
 .o 39 (.ex false 0 38),
 .o 40 (.ex false 1 38),
 .o 41 (.ex false 2 38),
 .o 42 (.ex false 3 38),
 .s (.st 1 (.t 8) (.k 39)),
 .s (.st 17 (.t 9) (.k 40)),
 .s (.st 4 (.t 10) (.k 41)),
 .o 11 (.mv (.k 42))] false [8,9,10,11] [8,9,10])
 .ret)
 .skip))))))))
 (.seq (.reg [] [.z 43 (.ld true 1 .cp (.k 6)) 2,
 .u 44 (.ld true 17 .cp (.k 7)) [0] 2,
 .u 45 (.mv (.k 1)) [0,1] 0,
 .u 46 (.callp n_c_ref10_Count [.c (.i .i64 0),.k 45]) [0,1] 2,
 .o 47 (.call n_c_ref11_Step [.k 43,.k 44,.k 46]),
 .o 48 (.ex false 0 47),
 .u 49 (.ex false 1 47) [5] 0,
 .u 50 (.ex false 2 47) [5,6] 0,
 .u 51 (.ex false 3 47) [5,6,7] 0,
 .s (.st 1 (.t 8) (.k 48)),
 .s (.st 17 (.t 9) (.k 49)),
 .s (.st 4 (.t 10) (.k 50)),
 .o 11 (.mv (.k 51))] true [8,9,10,11] [8,9,10])
 .ret)))⟩

def F_c_ref16_cell : F := ⟨2,[.inl 4],
 (.seq (.reg [.zz 0] [.o 2 (.bx (.k 0)),
 .o 4 (.mv (.c (.i .i64 0)))] false [1,2] [2])
 (.seq (.reg [] [.o 9 (.fa 0 (.t 2)),
 .o 10 (.fa 1 (.k 9)),
 .o 11 (.ld false 1 .cp (.k 10)),
 .o 5 (.mv (.k 11))] false [1,2,5] [2])
 (.seq (.seq (.reg [] [.o 12 (.fa 0 (.t 2)),
 .o 13 (.fa 0 (.k 12)),
 .o 14 (.ld false 1 .cp (.k 13))] false [1,2,5,14] [2])
 (.blk 0 (.seq (.reg [] [.o 16 (.bin .eql (.t 14) (.c (.i .i64 2))),
 .o 15 (.mv (.k 16))] false [1,2,5,14,15] [2])
 (.cond 15 (.seq (.seq (.reg [] [.o 17 (.mv (.t 1)),
 .o 18 (.bin .lss (.k 17) (.c (.i .i64 2)))] false [1,2,5,18] [2])
 (.cond 18 (.seq (.reg [] [.o 19 (.mv (.k 1)),
 .o 4 (.mv (.k 19))] false [4] [])
 .ret)
 .skip))
 (.seq (.reg [] [.o 20 (.fa 13 (.t 2)),
 .o 21 (.ld false 1 .cp (.k 20)),
 .o 22 (.ia 4 none (.k 21) (.c (.i .i64 0))),
 .o 23 (.fa 2 (.k 22)),
 .o 24 (.fa 0 (.k 23)),
 .o 25 (.ld false 1 .cp (.k 24)),
 .u 26 (.fa 13 (.t 2)) [0,1,2,3,4,5] 0,
 .u 27 (.ld false 1 .cp (.k 26)) [0,1,2,3,4,5] 0,
 .u 28 (.ia 4 none (.k 27) (.c (.i .i64 1))) [0,1,2,3,4,5] 0,
 .u 29 (.fa 2 (.k 28)) [0,1,2,3,4,5] 0,
 .u 30 (.fa 0 (.k 29)) [0,1,2,3,4,5] 0,
 .u 31 (.ld false 1 .cp (.k 30)) [0,1,2,3,4,5] 0,
 .u 6 (.mv (.k 25)) [6,7,8,9,10,11] 0,
 .o 7 (.mv (.k 31))] true [1,5,6,7] [])
 (.seq (.reg [] [.o 32 (.mv (.k 1)),
 .o 33 (.mv (.k 6)),
 .o 34 (.mv (.t 5)),
 .o 35 (.bin .mul (.k 33) (.k 34)),
 .o 36 (.bin .add (.k 32) (.k 35)),
 .o 8 (.mv (.k 36))] false [5,7,8] [])
 (.seq (.seq (.reg [] [.o 37 (.mv (.t 8)),
 .o 38 (.mv (.k 7)),
 .o 39 (.mv (.t 5)),
 .o 40 (.bin .mul (.k 38) (.k 39)),
 .o 41 (.bin .add (.c (.i .i64 2)) (.k 40)),
 .o 42 (.mv (.k 5)),
 .o 43 (.bin .add (.k 41) (.k 42)),
 .o 44 (.bin .geq (.k 37) (.k 43)),
 .o 45 (.mv (.k 44)),
 .c 45 false 46 (.mv (.t 8)),
 .c 45 false 47 (.bin .geq (.k 46) (.c (.i .i64 1000))),
 .o 48 (.pick (.k 45) (.c (.b true)) (.k 47))] false [8,48] [])
 (.cond 48 (.seq (.reg [] [.o 4 (.mv (.c (.i .i64 (-1))))] false [4] [])
 .ret)
 .skip))
 (.seq (.reg [] [.o 49 (.mv (.k 8)),
 .o 4 (.mv (.k 49))] false [4] [])
 .ret)))))
 (.seq (.reg [] [.o 51 (.bin .eql (.k 14) (.c (.i .i64 4))),
 .o 50 (.mv (.k 51))] false [1,5,50] [])
 (.cond 50 (.reg [] [.o 52 (.mv (.t 5)),
 .o 53 (.mv (.k 5)),
 .o 54 (.callp n_c_ref10_Count [.c (.i .i64 0),.k 53]),
 .o 55 (.fd false 0 1 (.k 54)),
 .o 56 (.len false (.k 55)),
 .o 57 (.bin .quo (.k 56) (.c (.i .i64 2))),
 .o 58 (.bin .add (.k 52) (.k 57)),
 .o 5 (.mv (.k 58))] false [1,5] [])
 .skip))))))
 (.seq (.seq (.reg [] [.o 59 (.mv (.t 1)),
 .o 60 (.mv (.k 5)),
 .o 61 (.bin .geq (.k 59) (.k 60))] false [1,61] [])
 (.cond 61 (.seq (.reg [] [.o 4 (.mv (.c (.i .i64 (-1))))] false [4] [])
 .ret)
 .skip))
 (.seq (.reg [] [.o 62 (.mv (.k 1)),
 .o 4 (.mv (.k 62))] false [4] [])
 .ret)))))⟩

def F_c_ref16_finish : F := ⟨1,[.inr (2,true,18)],
 (.seq (.reg [] [.o 1 (.bx (.k 0)),
 .o 2 (.al ([.i .i64 0,.i .i64 0,.l .o 3 [],.l .x 17 [],.b false,.b false,.b false,.b false,.b false,.i .i64 0,.i .i64 0,.i .i64 0,.i .i64 0,.l .o 4 [],.b false,.l .o 4 [],.i .i64 0,.b false]))] false [1,2] [1,2])
 (.seq (.reg [] [.o 3 (.fa 5 (.t 1)),
 .s (.st 1 (.k 3) (.c (.b false))),
 .o 4 (.fa 14 (.t 1)),
 .s (.st 1 (.k 4) (.c (.b true)))] false [1,2] [1,2])
 (.seq (.reg [] [.o 5 (.fa 13 (.t 1)),
 .o 6 (.ld false 1 .cp (.k 5)),
 .o 7 (.fa 9 (.t 1)),
 .o 8 (.ld false 1 .cp (.k 7)),
 .o 9 (.fa 10 (.t 1)),
 .o 10 (.ld false 1 .cp (.k 9)),
 .o 11 (.bin .sub (.k 8) (.k 10)),
 .o 12 (.bin .add (.k 11) (.c (.i .i64 1))),
 .o 13 (.fa 7 (.t 1)),
 .o 14 (.ld false 1 .cp (.k 13)),
 .o 15 (.bd ([.l .o 4 [],.i .i64 0,.b false]) [(0,1,.k 6),(1,1,.k 12),(2,1,.k 14)]),
 .o 16 (.fa 15 (.t 1)),
 .s (.st 3 (.k 16) (.k 15))] false [1,2] [1,2])
 (.seq (.seq (.reg [] [.o 17 (.fa 7 (.t 1)),
 .o 18 (.ld false 1 .cp (.k 17))] false [1,2,18] [1,2])
 (.cond 18 (.seq (.reg [] [.o 19 (.fa 9 (.t 1)),
 .o 20 (.ld false 1 .cp (.k 19)),
 .o 21 (.fa 15 (.t 1)),
 .o 22 (.fa 1 (.k 21)),
 .s (.st 1 (.k 22) (.k 20))] false [1,2] [1,2])
 (.seq (.reg [] [.o 23 (.fa 8 (.t 1)),
 .o 24 (.ld false 1 .cp (.k 23)),
 .o 25 (.fa 0 (.t 1)),
 .o 26 (.fa 4 (.k 25)),
 .s (.st 1 (.k 26) (.k 24))] false [1,2] [1,2])
 (.reg [] [.o 27 (.fa 7 (.t 1)),
 .s (.st 1 (.k 27) (.c (.b false)))] false [1,2] [1,2])))
 .skip))
 (.seq (.reg [] [.o 28 (.ld true 18 .tk (.k 1)),
 .s (.st 18 (.t 2) (.k 28))] false [2] [2])
 .ret)))))⟩

def F_kfifo_Queue_Slot : F := ⟨3,[.inl 6],
 (.seq (.reg [] [.o 3 (.bx (.k 0)),
 .o 6 (.mv (.c (.i .i64 0)))] false [1,2,3] [3])
 (.seq (.reg [] [.o 7 (.mv (.k 1)),
 .o 8 (.fa 0 (.k 3)),
 .o 9 (.ld false 1 .cp (.k 8)),
 .o 10 (.bin .mul (.k 7) (.k 9)),
 .o 11 (.bin .add (.c (.i .i64 2)) (.k 10)),
 .o 12 (.mv (.k 2)),
 .o 13 (.bin .add (.k 11) (.k 12)),
 .o 6 (.mv (.k 13))] false [6] [])
 .ret))⟩

def F_wire_Plan_merge : F := ⟨3,[.inl 6],
 (.seq (.reg [.zz 1,.zz 2] [.o 6 (.mv (.c (.l .o 1 [])))] false [0,1,2] [])
 (.seq (.seq (.reg [] [.o 11 (.mv (.t 1)),
 .o 12 (.len false (.k 11)),
 .o 13 (.bin .eql (.k 12) (.c (.i .i64 1)))] false [0,1,2,13] [])
 (.cond 13 (.seq (.reg [] [.o 14 (.mv (.t 0)),
 .u 15 (.mv (.t 0)) [0] 0,
 .u 16 (.nc (.k 15)) [0] 0,
 .u 17 (.fa 1 (.k 16)) [0] 0,
 .u 18 (.ld false 1 .tk (.k 17)) [0] 0,
 .u 19 (.mv (.t 1)) [0,1,2,3,4] 0,
 .u 20 (.ia 1 none (.k 19) (.c (.i .i64 0))) [0,1,2,3,4] 0,
 .u 21 (.ld false 1 .cp (.k 20)) [0,1,2,3,4] 0,
 .u 22 (.mv (.t 2)) [0,1,2,3,4,5,6,7] 0,
 .u 23 (.ia 1 none (.k 22) (.c (.i .i64 0))) [0,1,2,3,4,5,6,7] 0,
 .u 24 (.ld false 1 .cp (.k 23)) [0,1,2,3,4,5,6,7] 0,
 .u 25 (.bd ([.i .i64 0,.i .i64 0]) [(0,1,.k 21),(1,1,.k 24)]) [0,1,2,3,4] 0,
 .u 26 (.bs 2 1 (.a ([.i .i64 0,.i .i64 0])) [(0,.k 25)]) [0,1,2,3,4] 0,
 .u 27 (.app 2 16 (.k 18) (.k 26)) [0] 1,
 .o 28 (.nc (.k 14)),
 .o 29 (.fa 1 (.k 28)),
 .s (.st 1 (.k 29) (.k 27))] true [1,2] [])
 (.seq (.reg [] [.o 30 (.mv (.k 1)),
 .o 31 (.ia 1 none (.k 30) (.c (.i .i64 0))),
 .o 32 (.ld false 1 .cp (.k 31)),
 .u 33 (.mv (.k 2)) [0,1,2] 0,
 .u 34 (.ia 1 none (.k 33) (.c (.i .i64 0))) [0,1,2] 0,
 .u 35 (.ld false 1 .cp (.k 34)) [0,1,2] 0,
 .z 36 (.bs 1 2 (.i .i64 0) [(0,.k 32),(1,.k 35)]) 1,
 .o 6 (.mv (.k 36))] true [6] [])
 .ret))
 .skip))
 (.seq (.reg [] [.o 37 (.mv (.t 0)),
 .z 38 (.mv (.t 1)) 2,
 .z 39 (.call n_wire_every [.k 38,.c (.i .i64 0)]) 2,
 .z 40 (.mv (.t 2)) 2,
 .z 41 (.call n_wire_every [.k 40,.c (.i .i64 1)]) 2,
 .o 42 (.call n_wire_Plan_merge [.k 37,.k 39,.k 41]),
 .o 7 (.mv (.k 42))] false [0,1,2,7] [])
 (.seq (.reg [] [.o 43 (.mv (.t 0)),
 .z 44 (.mv (.k 1)) 2,
 .z 45 (.call n_wire_every [.k 44,.c (.i .i64 1)]) 2,
 .z 46 (.mv (.k 2)) 2,
 .z 47 (.call n_wire_every [.k 46,.c (.i .i64 0)]) 2,
 .o 48 (.call n_wire_Plan_merge [.k 43,.k 45,.k 47]),
 .o 8 (.mv (.k 48))] false [0,7,8] [])
 (.seq (.reg [] [.o 9 (.mv (.c (.l .o 1 [])))] false [0,7,8,9] [])
 (.seq (.seq (.reg [] [.o 49 (.mv (.t 7)),
 .o 50 (.len false (.k 49)),
 .o 51 (.mv (.c (.i .i64 0)))] false [0,7,8,9,50,51] [])
 (.blk 0 (.loop (.seq (.reg [] [.o 52 (.bin .lss (.t 51) (.t 50))] false [0,7,8,9,50,51,52] [])
 (.seq (.cond 52 .skip
 (.exit 0))
 (.seq (.blk 1 (.seq (.reg [] [.o 53 (.mv (.t 51)),
 .o 10 (.mv (.k 53))] false [0,7,8,9,10,50,51] [])
 (.seq (.reg [] [.o 54 (.mv (.t 0)),
 .u 55 (.mv (.t 0)) [0] 0,
 .u 56 (.nc (.k 55)) [0] 0,
 .u 57 (.fa 1 (.k 56)) [0] 0,
 .u 58 (.ld false 1 .tk (.k 57)) [0] 0,
 .u 59 (.mv (.t 7)) [0,1,2,3,4] 0,
 .u 60 (.mv (.t 10)) [0,1,2,3,4,5] 0,
 .u 61 (.ia 1 none (.k 59) (.k 60)) [0,1,2,3,4] 0,
 .u 62 (.ld false 1 .cp (.k 61)) [0,1,2,3,4] 0,
 .u 63 (.mv (.t 8)) [0,1,2,3,4,5,6,7,8] 0,
 .u 64 (.mv (.t 10)) [0,1,2,3,4,5,6,7,8,9] 0,
 .u 65 (.ia 1 none (.k 63) (.k 64)) [0,1,2,3,4,5,6,7,8] 0,
 .u 66 (.ld false 1 .cp (.k 65)) [0,1,2,3,4,5,6,7,8] 0,
 .u 67 (.bd ([.i .i64 0,.i .i64 0]) [(0,1,.k 62),(1,1,.k 66)]) [0,1,2,3,4] 0,
 .u 68 (.bs 2 1 (.a ([.i .i64 0,.i .i64 0])) [(0,.k 67)]) [0,1,2,3,4] 0,
 .u 69 (.app 2 16 (.k 58) (.k 68)) [0] 1,
 .o 70 (.nc (.k 54)),
 .o 71 (.fa 1 (.k 70)),
 .s (.st 1 (.k 71) (.k 69))] true [0,7,8,9,10,50,51] [])
 (.reg [] [.o 72 (.mv (.k 9)),
 .u 73 (.mv (.t 7)) [0] 0,
 .u 74 (.mv (.t 10)) [0,1] 0,
 .u 75 (.ia 1 none (.k 73) (.k 74)) [0] 0,
 .u 76 (.ld false 1 .cp (.k 75)) [0] 0,
 .u 77 (.mv (.t 8)) [0,1,2,3,4] 0,
 .u 78 (.mv (.t 10)) [0,1,2,3,4,5] 0,
 .u 79 (.ia 1 none (.k 77) (.k 78)) [0,1,2,3,4] 0,
 .u 80 (.ld false 1 .cp (.k 79)) [0,1,2,3,4] 0,
 .u 81 (.bs 1 2 (.i .i64 0) [(0,.k 76),(1,.k 80)]) [0] 0,
 .z 82 (.app 1 8 (.k 72) (.k 81)) 1,
 .o 9 (.mv (.k 82))] true [0,7,8,9,50,51] []))))
 (.reg [] [.o 83 (.bin .add (.k 51) (.c (.i .i64 1))),
 .o 51 (.mv (.k 83))] false [0,7,8,9,50,51] [])))))))
 (.seq (.reg [] [.o 84 (.mv (.k 9)),
 .o 6 (.mv (.k 84))] false [6] [])
 .ret)))))))⟩

def F_c_ref08_Step : F := ⟨3,[.inr (6,true,1),.inr (7,true,17),.inr (8,true,4),.inl 9],
 (.seq (.reg [.zz 0,.zz 1] [.o 3 (.bx (.k 0)),
 .o 4 (.bx (.k 1)),
 .o 6 (.al ([.l .o 3 []])),
 .o 7 (.al ([.i .i64 0,.i .u64 0,.i .i64 0,.i .i64 0,.i .i64 0,.i .i64 0,.i .i64 0,.i .i64 0,.i .i64 0,.i .i64 0,.b false,.i .i64 0,.i .i64 0,.i .i64 0,.l .o 2 [],.i .i64 0,.l .o 2 []])),
 .o 8 (.al ([.b false,.i .u64 0,.i .i64 0,.i .i64 0])),
 .o 9 (.mv (.c (.b false)))] false [2,3,4,6,7,8] [3,4,6,7,8])
 (.seq (.seq (.reg [] [.o 17 (.fa 0 (.t 4)),
 .o 18 (.ld false 1 .cp (.k 17)),
 .o 19 (.bin .eql (.k 18) (.c (.i .i64 1)))] false [2,3,4,6,7,8,19] [3,4,6,7,8])
 (.cond 19 (.seq (.reg [] [.z 20 (.ld true 1 .tk (.k 3)) 2,
 .z 21 (.ld true 17 .tk (.k 4)) 2,
 .o 22 (.mv (.k 2)),
 .o 23 (.call n_c_ref08_insert [.k 20,.k 21,.k 22]),
 .o 24 (.ex false 0 23),
 .o 25 (.ex false 1 23),
 .o 26 (.ex false 2 23),
 .o 27 (.ex false 3 23),
 .s (.st 1 (.t 6) (.k 24)),
 .s (.st 17 (.t 7) (.k 25)),
 .s (.st 4 (.t 8) (.k 26)),
 .o 9 (.mv (.k 27))] false [6,7,8,9] [6,7,8])
 .ret)
 .skip))
 (.seq (.reg [] [.o 28 (.fa 3 (.t 4)),
 .o 29 (.ld false 1 .cp (.k 28)),
 .u 30 (.mv (.t 2)) [0,1] 0,
 .o 31 (.call n_c_ref06_Into [.k 29,.k 30]),
 .u 32 (.fa 4 (.t 4)) [0,1,2,3] 0,
 .u 33 (.ld false 1 .cp (.k 32)) [0,1,2,3] 0,
 .u 34 (.mv (.t 2)) [0,1,2,3,4,5] 0,
 .o 35 (.call n_c_ref06_Into [.k 33,.k 34]),
 .o 10 (.mv (.k 31)),
 .o 11 (.mv (.k 35))] true [3,4,6,7,8,10,11] [3,4,6,7,8])
 (.seq (.seq (.reg [] [.o 36 (.fa 5 (.t 4)),
 .o 37 (.ld false 1 .cp (.k 36))] false [3,4,6,7,8,10,11,37] [3,4,6,7,8])
 (.blk 0 (.seq (.reg [] [.o 39 (.bin .eql (.t 37) (.c (.i .i64 0))),
 .o 38 (.mv (.k 39))] false [3,4,6,7,8,10,11,37,38] [3,4,6,7,8])
 (.cond 38 (.seq (.reg [] [.z 41 (.ld true 1 .cp (.t 3)) 2,
 .o 42 (.mv (.k 10)),
 .o 43 (.call n_c_ref05_Read [.k 41,.k 42]),
 .o 40 (.mv (.k 43)),
 .o 44 (.ex false 0 40),
 .o 45 (.ex false 1 40),
 .o 46 (.fa 11 (.t 4)),
 .s (.st 1 (.k 46) (.k 44)),
 .o 47 (.fa 13 (.t 4)),
 .s (.st 2 (.k 47) (.k 45))] false [3,4,6,7,8] [3,4,6,7,8])
 (.seq (.reg [] [.o 48 (.fa 5 (.t 4)),
 .s (.st 1 (.k 48) (.c (.i .i64 1)))] false [3,4,6,7,8] [3,4,6,7,8])
 (.seq (.reg [] [.o 49 (.ld true 1 .cp (.k 3)),
 .u 50 (.ld true 17 .cp (.k 4)) [0] 0,
 .u 51 (.bd ([.b false,.i .u64 0,.i .i64 0,.i .i64 0]) []) [0,1] 0,
 ⟨none,none,.st 1 (.t 6) (.k 49),[1,2],0⟩,
 ⟨none,none,.st 17 (.t 7) (.k 50),[2],0⟩,
 .s (.st 4 (.t 8) (.k 51)),
 .o 9 (.mv (.c (.b false)))] true [6,7,8,9] [6,7,8])
 .ret)))
 (.seq (.reg [] [.o 53 (.bin .eql (.k 37) (.c (.i .i64 1))),
 .o 52 (.mv (.k 53))] false [3,4,6,7,8,10,11,52] [3,4,6,7,8])
 (.cond 52 (.seq (.reg [] [.z 55 (.ld true 1 .cp (.t 3)) 2,
 .o 56 (.mv (.k 11)),
 .o 57 (.call n_c_ref05_Read [.k 55,.k 56]),
 .o 54 (.mv (.k 57)),
 .o 58 (.ex false 0 54),
 .o 59 (.ex false 1 54),
 .o 60 (.fa 12 (.t 4)),
 .s (.st 1 (.k 60) (.k 58)),
 .o 61 (.fa 15 (.t 4)),
 .s (.st 2 (.k 61) (.k 59))] false [3,4,6,7,8] [3,4,6,7,8])
 (.seq (.reg [] [.o 62 (.fa 5 (.t 4)),
 .s (.st 1 (.k 62) (.c (.i .i64 2)))] false [3,4,6,7,8] [3,4,6,7,8])
 (.seq (.reg [] [.o 63 (.ld true 1 .cp (.k 3)),
 .u 64 (.ld true 17 .cp (.t 4)) [0] 0,
 .u 65 (.bd ([.b false,.i .u64 0,.i .i64 0,.i .i64 0]) []) [0,1] 0,
 .u 66 (.fa 13 (.t 4)) [0,1,2] 0,
 .u 67 (.fa 1 (.k 66)) [0,1,2] 0,
 .u 68 (.ld false 1 .cp (.k 67)) [0,1,2] 0,
 .u 69 (.len false (.k 68)) [0,1,2] 0,
 .u 70 (.fa 15 (.t 4)) [0,1,2,3,4,5,6] 0,
 .u 71 (.fa 1 (.k 70)) [0,1,2,3,4,5,6] 0,
 .u 72 (.ld false 1 .cp (.k 71)) [0,1,2,3,4,5,6] 0,
 .u 73 (.len false (.k 72)) [0,1,2,3,4,5,6] 0,
 .u 74 (.bin .add (.k 69) (.k 73)) [0,1,2] 0,
 .u 75 (.bin .eql (.k 74) (.c (.i .i64 0))) [0,1,2] 0,
 ⟨none,none,.st 1 (.t 6) (.k 63),[1,2,3,4,5,6,7,8,9,10,11,12],0⟩,
 ⟨none,none,.st 17 (.t 7) (.k 64),[2,3,4,5,6,7,8,9,10,11,12],0⟩,
 ⟨none,none,.st 4 (.t 8) (.k 65),[3,4,5,6,7,8,9,10,11,12],0⟩,
 .o 9 (.mv (.k 75))] true [6,7,8,9] [6,7,8])
 .ret)))
 .skip))))))
 (.seq (.reg [] [.o 76 (.fa 5 (.t 4)),
 .s (.st 1 (.k 76) (.c (.i .i64 0)))] false [3,4,6,7,8,10,11] [3,4,6,7,8])
 (.seq (.reg [] [.o 77 (.mv (.k 10)),
 .u 78 (.fa 11 (.t 4)) [0] 0,
 .u 79 (.ld false 1 .cp (.k 78)) [0] 0,
 .u 80 (.fa 13 (.t 4)) [0,1,2] 0,
 .u 81 (.fa 1 (.k 80)) [0,1,2] 0,
 .u 82 (.ld false 1 .cp (.k 81)) [0,1,2] 0,
 .u 12 (.mv (.k 77)) [1,2,3,4,5] 0,
 .u 13 (.mv (.k 79)) [3,4,5] 0,
 .o 14 (.mv (.k 82))] true [3,4,6,7,8,11,12,13,14] [3,4,6,7,8])
 (.seq (.seq (.reg [] [.o 83 (.mv (.t 14)),
 .o 84 (.len false (.k 83)),
 .o 85 (.bin .eql (.k 84) (.c (.i .i64 0))),
 .o 86 (.mv (.k 85)),
 .c 86 false 87 (.fa 15 (.t 4)),
 .c 86 false 88 (.fa 1 (.k 87)),
 .c 86 false 89 (.ld false 1 .cp (.k 88)),
 .c 86 false 90 (.len false (.k 89)),
 .c 86 false 91 (.bin .gtr (.k 90) (.c (.i .i64 0))),
 .c 86 false 92 (.mv (.k 91)),
 .c 92 true 93 (.fa 15 (.t 4)),
 .c 92 true 94 (.fa 1 (.k 93)),
 .c 92 true 95 (.ld false 1 .cp (.k 94)),
 .c 92 true 96 (.ia 2 none (.k 95) (.c (.i .i64 0))),
 .c 92 true 97 (.ld true 2 .cp (.k 96)),
 ⟨some 98,some (92,true),.mv (.t 14),[10,11,12,13,14],0⟩,
 ⟨some 99,some (92,true),.ia 2 none (.k 98) (.c (.i .i64 0)),[10,11,12,13,14],0⟩,
 ⟨some 100,some (92,true),.ld true 2 .cp (.k 99),[10,11,12,13,14],0⟩,
 .c 92 true 101 (.call n_c_ref04_Cmp [.k 97,.k 100]),
 .c 92 true 102 (.bin .lss (.k 101) (.c (.i .i64 0))),
 .c 86 false 103 (.pick (.t 92) (.k 102) (.c (.b false))),
 .o 104 (.pick (.t 86) (.c (.b true)) (.k 103))] true [3,4,6,7,8,11,12,13,14,104] [3,4,6,7,8])
 (.cond 104 (.reg [] [.o 105 (.mv (.k 11)),
 .u 106 (.fa 12 (.t 4)) [0] 0,
 .u 107 (.ld false 1 .cp (.k 106)) [0] 0,
 .u 108 (.fa 15 (.t 4)) [0,1,2] 0,
 .u 109 (.fa 1 (.k 108)) [0,1,2] 0,
 .u 110 (.ld false 1 .cp (.k 109)) [0,1,2] 0,
 .u 12 (.mv (.k 105)) [1,2,3,4,5] 0,
 .u 13 (.mv (.k 107)) [3,4,5] 0,
 .o 14 (.mv (.k 110))] true [3,4,6,7,8,12,13,14] [3,4,6,7,8])
 .skip))
 (.seq (.reg [] [.z 112 (.ld true 1 .cp (.t 3)) 2,
 .u 113 (.mv (.k 12)) [0] 0,
 .u 114 (.mv (.k 13)) [0,1] 0,
 .u 115 (.mv (.t 14)) [0,1,2] 0,
 .u 116 (.sl 2 (.k 115) (some (.c (.i .i64 1))) none none) [0,1,2] 0,
 .u 117 (.bd ([.i .i64 0,.l .o 2 []]) [(1,1,.k 116)]) [0,1,2] 2,
 .o 118 (.call n_c_ref05_Write [.k 112,.k 113,.k 114,.k 117]),
 .o 111 (.mv (.k 118)),
 .o 119 (.ex false 0 111),
 .u 120 (.ex false 1 111) [8] 0,
 .u 15 (.al ([.l .o 3 []])) [0,1,2,3,4,5,6,7,8,9] 0,
 ⟨none,none,.st 1 (.t 15) (.k 119),[9],0⟩,
 .o 16 (.mv (.k 120))] true [3,4,6,7,8,14,15,16] [3,4,6,7,8,15])
 (.seq (.seq (.reg [] [.o 121 (.mv (.k 16)),
 .o 122 (.un .not (.k 121))] false [3,4,6,7,8,14,15,122] [3,4,6,7,8,15])
 (.cond 122 (.seq (.reg [] [.o 123 (.ld true 1 .cp (.k 3)),
 .u 124 (.ld true 17 .cp (.k 4)) [0] 0,
 .u 125 (.bd ([.b false,.i .u64 0,.i .i64 0,.i .i64 0]) []) [0,1] 0,
 ⟨none,none,.st 1 (.t 6) (.k 123),[1,2],0⟩,
 ⟨none,none,.st 17 (.t 7) (.k 124),[2],0⟩,
 .s (.st 4 (.t 8) (.k 125)),
 .o 9 (.mv (.c (.b false)))] true [6,7,8,9] [6,7,8])
 .ret)
 .skip))
 (.seq (.reg [] [.o 126 (.ld true 1 .cp (.k 15)),
 .u 127 (.ld true 17 .cp (.k 4)) [0] 0,
 .u 128 (.mv (.k 14)) [0,1] 0,
 .u 129 (.ia 2 none (.k 128) (.c (.i .i64 0))) [0,1] 0,
 .u 130 (.ld true 2 .cp (.k 129)) [0,1] 0,
 .u 131 (.bd ([.b false,.i .u64 0,.i .i64 0,.i .i64 0]) [(0,1,.c (.b true)),(1,2,.k 130)]) [0,1] 0,
 ⟨none,none,.st 1 (.t 6) (.k 126),[1,2,3,4,5],0⟩,
 ⟨none,none,.st 17 (.t 7) (.k 127),[2,3,4,5],0⟩,
 .s (.st 4 (.t 8) (.k 131)),
 .o 9 (.mv (.c (.b true)))] true [6,7,8,9] [6,7,8])
 .ret))))))))))⟩

def F_c_ref09_Step : F := ⟨3,[.inr (6,true,1),.inr (7,true,17),.inr (8,true,4),.inl 9],
 (.seq (.reg [.zz 0,.zz 1] [.o 3 (.bx (.k 0)),
 .o 4 (.bx (.k 1)),
 .o 6 (.al ([.l .o 3 []])),
 .o 7 (.al ([.i .i64 0,.i .u64 0,.i .i64 0,.i .i64 0,.i .i64 0,.i .i64 0,.i .i64 0,.i .i64 0,.i .i64 0,.i .i64 0,.b false,.i .i64 0,.i .i64 0,.i .i64 0,.l .o 2 [],.i .i64 0,.l .o 2 []])),
 .o 8 (.al ([.b false,.i .u64 0,.i .i64 0,.i .i64 0])),
 .o 9 (.mv (.c (.b false)))] false [2,3,4,6,7,8] [3,4,6,7,8])
 (.seq (.seq (.reg [] [.o 16 (.fa 0 (.t 4)),
 .o 17 (.ld false 1 .cp (.k 16)),
 .o 18 (.bin .eql (.k 17) (.c (.i .i64 3)))] false [2,3,4,6,7,8,18] [3,4,6,7,8])
 (.cond 18 (.seq (.reg [] [.z 19 (.ld true 1 .tk (.k 3)) 2,
 .z 20 (.ld true 17 .tk (.k 4)) 2,
 .o 21 (.mv (.k 2)),
 .o 22 (.call n_c_ref09_enq [.k 19,.k 20,.k 21]),
 .o 23 (.ex false 0 22),
 .o 24 (.ex false 1 22),
 .o 25 (.ex false 2 22),
 .o 26 (.ex false 3 22),
 .s (.st 1 (.t 6) (.k 23)),
 .s (.st 17 (.t 7) (.k 24)),
 .s (.st 4 (.t 8) (.k 25)),
 .o 9 (.mv (.k 26))] false [6,7,8,9] [6,7,8])
 .ret)
 .skip))
 (.seq (.seq (.reg [] [.o 27 (.fa 5 (.t 4)),
 .o 28 (.ld false 1 .cp (.k 27))] false [2,3,4,6,7,8,28] [3,4,6,7,8])
 (.blk 0 (.seq (.reg [] [.o 30 (.bin .eql (.t 28) (.c (.i .i64 0))),
 .o 29 (.mv (.k 30))] false [2,3,4,6,7,8,28,29] [3,4,6,7,8])
 (.cond 29 (.seq (.reg [] [.z 32 (.ld true 1 .cp (.t 3)) 2,
 .o 33 (.call n_c_ref05_Read [.k 32,.c (.i .i64 0)]),
 .o 31 (.mv (.k 33)),
 .o 34 (.ex false 0 31),
 .o 35 (.ex false 1 31),
 .o 36 (.fa 11 (.t 4)),
 .s (.st 1 (.k 36) (.k 34)),
 .o 37 (.fa 13 (.t 4)),
 .s (.st 2 (.k 37) (.k 35))] false [3,4,6,7,8] [3,4,6,7,8])
 (.seq (.reg [] [.o 38 (.fa 13 (.t 4)),
 .o 39 (.fa 0 (.k 38)),
 .o 40 (.ld false 1 .cp (.k 39)),
 .o 41 (.fa 8 (.t 4)),
 .s (.st 1 (.k 41) (.k 40)),
 .o 42 (.fa 5 (.t 4)),
 .s (.st 1 (.k 42) (.c (.i .i64 1)))] false [3,4,6,7,8] [3,4,6,7,8])
 (.seq (.reg [] [.o 43 (.ld true 1 .cp (.k 3)),
 .u 44 (.ld true 17 .cp (.k 4)) [0] 0,
 .u 45 (.bd ([.b false,.i .u64 0,.i .i64 0,.i .i64 0]) []) [0,1] 0,
 ⟨none,none,.st 1 (.t 6) (.k 43),[1,2],0⟩,
 ⟨none,none,.st 17 (.t 7) (.k 44),[2],0⟩,
 .s (.st 4 (.t 8) (.k 45)),
 .o 9 (.mv (.c (.b false)))] true [6,7,8,9] [6,7,8])
 .ret)))
 (.seq (.reg [] [.o 47 (.bin .eql (.t 28) (.c (.i .i64 1))),
 .o 46 (.mv (.k 47))] false [2,3,4,6,7,8,28,46] [3,4,6,7,8])
 (.cond 46 (.seq (.reg [] [.z 49 (.ld true 1 .cp (.t 3)) 2,
 .o 50 (.call n_c_ref05_Read [.k 49,.c (.i .i64 1)]),
 .o 48 (.mv (.k 50)),
 .o 51 (.ex false 0 48),
 .o 52 (.ex false 1 48),
 .o 53 (.fa 12 (.t 4)),
 .s (.st 1 (.k 53) (.k 51)),
 .o 54 (.fa 15 (.t 4)),
 .s (.st 2 (.k 54) (.k 52))] false [2,3,4,6,7,8] [3,4,6,7,8])
 (.seq (.reg [] [.o 55 (.fa 3 (.t 4)),
 .o 56 (.ld false 1 .cp (.k 55)),
 .o 57 (.mv (.k 2)),
 .o 58 (.call n_c_ref06_Into [.k 56,.k 57]),
 .o 59 (.fa 6 (.t 4)),
 .s (.st 1 (.k 59) (.k 58)),
 .o 60 (.fa 7 (.t 4)),
 .s (.st 1 (.k 60) (.c (.i .i64 0))),
 .o 61 (.fa 10 (.t 4)),
 .s (.st 1 (.k 61) (.c (.b false))),
 .o 62 (.fa 5 (.t 4)),
 .s (.st 1 (.k 62) (.c (.i .i64 2)))] false [3,4,6,7,8] [3,4,6,7,8])
 (.seq (.reg [] [.o 63 (.ld true 1 .cp (.k 3)),
 .u 64 (.ld true 17 .cp (.k 4)) [0] 0,
 .u 65 (.bd ([.b false,.i .u64 0,.i .i64 0,.i .i64 0]) []) [0,1] 0,
 ⟨none,none,.st 1 (.t 6) (.k 63),[1,2],0⟩,
 ⟨none,none,.st 17 (.t 7) (.k 64),[2],0⟩,
 .s (.st 4 (.t 8) (.k 65)),
 .o 9 (.mv (.c (.b false)))] true [6,7,8,9] [6,7,8])
 .ret)))
 (.seq (.reg [] [.o 67 (.bin .eql (.t 28) (.c (.i .i64 2))),
 .o 66 (.mv (.k 67))] false [2,3,4,6,7,8,28,66] [3,4,6,7,8])
 (.cond 66 (.seq (.reg [] [.z 68 (.ld true 1 .tk (.k 3)) 2,
 .z 69 (.ld true 17 .tk (.k 4)) 2,
 .o 70 (.mv (.k 2)),
 .o 71 (.call n_c_ref09_look [.k 68,.k 69,.k 70]),
 .o 72 (.ex false 0 71),
 .o 73 (.ex false 1 71),
 .o 74 (.ex false 2 71),
 .o 75 (.ex false 3 71),
 .s (.st 1 (.t 6) (.k 72)),
 .s (.st 17 (.t 7) (.k 73)),
 .s (.st 4 (.t 8) (.k 74)),
 .o 9 (.mv (.k 75))] false [6,7,8,9] [6,7,8])
 .ret)
 (.seq (.reg [] [.o 77 (.bin .eql (.t 28) (.c (.i .i64 3))),
 .o 76 (.mv (.k 77))] false [2,3,4,6,7,8,28,76] [3,4,6,7,8])
 (.cond 76 (.seq (.reg [] [.z 79 (.ld true 1 .cp (.k 3)) 2,
 .u 80 (.ld true 17 .cp (.t 4)) [0] 2,
 .u 81 (.mv (.k 2)) [0,1] 0,
 .u 82 (.call n_c_ref09_slot [.k 80,.k 81]) [0] 0,
 .u 83 (.fa 12 (.t 4)) [0,1,2,3] 0,
 .u 84 (.ld false 1 .cp (.k 83)) [0,1,2,3] 0,
 .u 85 (.bd ([.i .i64 0,.l .o 2 []]) [(0,1,.c (.i .i64 2))]) [0,1,2,3,4,5] 2,
 .o 86 (.call n_c_ref05_Write [.k 79,.k 82,.k 84,.k 85]),
 .o 78 (.mv (.k 86)),
 .o 87 (.ex false 0 78),
 .u 88 (.ex false 1 78) [9] 0,
 .u 10 (.al ([.l .o 3 []])) [0,1,2,3,4,5,6,7,8,9,10] 0,
 ⟨none,none,.st 1 (.t 10) (.k 87),[10],0⟩,
 .o 11 (.mv (.k 88))] true [4,6,7,8,10,11] [4,6,7,8,10])
 (.seq (.seq (.reg [] [.o 89 (.mv (.k 11))] false [4,6,7,8,10,89] [4,6,7,8,10])
 (.cond 89 (.seq (.reg [] [.o 90 (.ld true 1 .cp (.k 10)),
 .u 91 (.ld true 17 .cp (.t 4)) [0] 0,
 .u 92 (.fa 15 (.t 4)) [0,1] 0,
 .u 93 (.fa 1 (.k 92)) [0,1] 0,
 .u 94 (.ld false 1 .cp (.k 93)) [0,1] 0,
 .u 95 (.ia 2 none (.k 94) (.c (.i .i64 0))) [0,1] 0,
 .u 96 (.ld true 2 .cp (.k 95)) [0,1] 0,
 .u 97 (.bd ([.b false,.i .u64 0,.i .i64 0,.i .i64 0]) [(0,1,.c (.b true)),(1,2,.k 96)]) [0,1] 0,
 ⟨none,none,.st 1 (.t 6) (.k 90),[1,2,3,4,5,6,7],0⟩,
 ⟨none,none,.st 17 (.t 7) (.k 91),[2,3,4,5,6,7],0⟩,
 .s (.st 4 (.t 8) (.k 97)),
 .o 9 (.mv (.c (.b true)))] true [6,7,8,9] [6,7,8])
 .ret)
 .skip))
 (.seq (.reg [] [.z 98 (.ld true 1 .tk (.k 10)) 2,
 .z 99 (.ld true 17 .tk (.k 4)) 2,
 .o 100 (.call n_c_ref09_again [.k 98,.k 99]),
 .o 101 (.ex false 0 100),
 .o 102 (.ex false 1 100),
 .o 103 (.ex false 2 100),
 .o 104 (.ex false 3 100),
 .s (.st 1 (.t 6) (.k 101)),
 .s (.st 17 (.t 7) (.k 102)),
 .s (.st 4 (.t 8) (.k 103)),
 .o 9 (.mv (.k 104))] false [6,7,8,9] [6,7,8])
 .ret)))
 (.seq (.reg [] [.o 106 (.bin .eql (.k 28) (.c (.i .i64 4))),
 .o 105 (.mv (.k 106))] false [3,4,6,7,8,105] [3,4,6,7,8])
 (.cond 105 (.seq (.reg [] [.z 108 (.ld true 1 .tk (.k 3)) 2,
 .o 109 (.fa 12 (.t 4)),
 .o 110 (.ld false 1 .cp (.k 109)),
 .o 111 (.fa 8 (.t 4)),
 .o 112 (.ld false 1 .cp (.k 111)),
 .o 113 (.bin .add (.k 112) (.c (.i .i64 1))),
 .z 114 (.bd ([.i .i64 0,.l .o 2 []]) [(0,1,.k 113)]) 2,
 .o 115 (.call n_c_ref05_Write [.k 108,.c (.i .i64 1),.k 110,.k 114]),
 .o 107 (.mv (.k 115)),
 .o 116 (.ex false 0 107),
 .o 117 (.ex false 1 107),
 .o 12 (.al ([.l .o 3 []])),
 .s (.st 1 (.t 12) (.k 116)),
 .o 13 (.mv (.k 117))] false [4,6,7,8,12] [4,6,7,8,12])
 (.seq (.reg [] [.z 118 (.ld true 1 .tk (.k 12)) 2,
 .z 119 (.ld true 17 .tk (.k 4)) 2,
 .o 120 (.call n_c_ref09_again [.k 118,.k 119]),
 .o 121 (.ex false 0 120),
 .o 122 (.ex false 1 120),
 .o 123 (.ex false 2 120),
 .o 124 (.ex false 3 120),
 .s (.st 1 (.t 6) (.k 121)),
 .s (.st 17 (.t 7) (.k 122)),
 .s (.st 4 (.t 8) (.k 123)),
 .o 9 (.mv (.k 124))] false [6,7,8,9] [6,7,8])
 .ret))
 .skip))))))))))))
 (.seq (.reg [] [.z 126 (.ld true 1 .tk (.k 3)) 2,
 .o 127 (.fa 11 (.t 4)),
 .o 128 (.ld false 1 .cp (.k 127)),
 .o 129 (.fa 8 (.t 4)),
 .o 130 (.ld false 1 .cp (.k 129)),
 .o 131 (.bin .add (.k 130) (.c (.i .i64 1))),
 .z 132 (.bd ([.i .i64 0,.l .o 2 []]) [(0,1,.k 131)]) 2,
 .o 133 (.call n_c_ref05_Write [.k 126,.c (.i .i64 0),.k 128,.k 132]),
 .o 125 (.mv (.k 133)),
 .o 134 (.ex false 0 125),
 .o 135 (.ex false 1 125),
 .o 14 (.al ([.l .o 3 []])),
 .s (.st 1 (.t 14) (.k 134)),
 .o 15 (.mv (.k 135))] false [4,6,7,8,14] [4,6,7,8,14])
 (.seq (.reg [] [.z 136 (.ld true 1 .tk (.k 14)) 2,
 .z 137 (.ld true 17 .tk (.k 4)) 2,
 .o 138 (.call n_c_ref09_again [.k 136,.k 137]),
 .o 139 (.ex false 0 138),
 .o 140 (.ex false 1 138),
 .o 141 (.ex false 2 138),
 .o 142 (.ex false 3 138),
 .s (.st 1 (.t 6) (.k 139)),
 .s (.st 17 (.t 7) (.k 140)),
 .s (.st 4 (.t 8) (.k 141)),
 .o 9 (.mv (.k 142))] false [6,7,8,9] [6,7,8])
 .ret)))))⟩

def F_c_ref07_Step : F := ⟨3,[.inr (6,true,1),.inr (7,true,17),.inr (8,true,4),.inl 9],
 (.seq (.reg [.zz 0,.zz 1] [.o 3 (.bx (.k 0)),
 .o 4 (.bx (.k 1)),
 .o 6 (.al ([.l .o 3 []])),
 .o 7 (.al ([.i .i64 0,.i .u64 0,.i .i64 0,.i .i64 0,.i .i64 0,.i .i64 0,.i .i64 0,.i .i64 0,.i .i64 0,.i .i64 0,.b false,.i .i64 0,.i .i64 0,.i .i64 0,.l .o 2 [],.i .i64 0,.l .o 2 []])),
 .o 8 (.al ([.b false,.i .u64 0,.i .i64 0,.i .i64 0])),
 .o 9 (.mv (.c (.b false)))] false [2,3,4,6,7,8] [3,4,6,7,8])
 (.seq (.seq (.reg [] [.o 15 (.fa 0 (.t 4)),
 .o 16 (.ld false 1 .cp (.k 15)),
 .o 17 (.bin .eql (.k 16) (.c (.i .i64 6)))] false [2,3,4,6,7,8,17] [3,4,6,7,8])
 (.cond 17 (.seq (.reg [] [.z 19 (.ld true 1 .cp (.t 3)) 2,
 .o 20 (.fa 6 (.t 4)),
 .o 21 (.ld false 1 .cp (.k 20)),
 .o 22 (.call n_c_ref05_Read [.k 19,.k 21]),
 .o 18 (.mv (.k 22)),
 .o 23 (.ex false 0 18),
 .o 24 (.ex false 1 18),
 .o 11 (.al ([.i .i64 0,.l .o 2 []])),
 .o 10 (.mv (.k 23)),
 .s (.st 2 (.t 11) (.k 24))] false [2,3,4,6,7,8,11] [3,4,6,7,8,11])
 (.seq (.reg [] [.o 25 (.fa 9 (.t 4)),
 .o 26 (.ld false 1 .cp (.k 25)),
 .o 27 (.fa 0 (.k 11)),
 .o 28 (.ld false 1 .cp (.k 27)),
 .o 29 (.bin .add (.k 26) (.k 28)),
 .o 30 (.fa 9 (.t 4)),
 .s (.st 1 (.k 30) (.k 29))] false [2,3,4,6,7,8] [3,4,6,7,8])
 (.seq (.reg [] [.o 31 (.fa 6 (.t 4)),
 .o 32 (.ld false 1 .cp (.k 31)),
 .o 33 (.bin .add (.k 32) (.c (.i .i64 1))),
 .o 34 (.fa 6 (.t 4)),
 .s (.st 1 (.k 34) (.k 33))] false [2,3,4,6,7,8] [3,4,6,7,8])
 (.seq (.seq (.reg [] [.o 35 (.fa 6 (.t 4)),
 .o 36 (.ld false 1 .cp (.k 35)),
 .o 37 (.mv (.k 2)),
 .o 38 (.bin .eql (.k 36) (.k 37))] false [3,4,6,7,8,38] [3,4,6,7,8])
 (.cond 38 (.seq (.reg [] [.o 39 (.ld true 1 .cp (.k 3)),
 .u 40 (.ld true 17 .cp (.t 4)) [0] 0,
 .u 41 (.fa 9 (.t 4)) [0,1] 0,
 .u 42 (.ld false 1 .cp (.k 41)) [0,1] 0,
 .u 43 (.bd ([.b false,.i .u64 0,.i .i64 0,.i .i64 0]) [(0,1,.c (.b true)),(3,1,.k 42)]) [0,1] 0,
 ⟨none,none,.st 1 (.t 6) (.k 39),[1,2,3,4],0⟩,
 ⟨none,none,.st 17 (.t 7) (.k 40),[2,3,4],0⟩,
 .s (.st 4 (.t 8) (.k 43)),
 .o 9 (.mv (.c (.b true)))] true [6,7,8,9] [6,7,8])
 .ret)
 .skip))
 (.seq (.reg [] [.o 44 (.ld true 1 .cp (.k 3)),
 .u 45 (.ld true 17 .cp (.k 4)) [0] 0,
 .u 46 (.bd ([.b false,.i .u64 0,.i .i64 0,.i .i64 0]) []) [0,1] 0,
 ⟨none,none,.st 1 (.t 6) (.k 44),[1,2],0⟩,
 ⟨none,none,.st 17 (.t 7) (.k 45),[2],0⟩,
 .s (.st 4 (.t 8) (.k 46)),
 .o 9 (.mv (.c (.b false)))] true [6,7,8,9] [6,7,8])
 .ret)))))
 .skip))
 (.seq (.reg [] [.o 47 (.fa 3 (.t 4)),
 .o 48 (.ld false 1 .cp (.k 47)),
 .o 49 (.mv (.k 2)),
 .o 50 (.call n_c_ref06_Into [.k 48,.k 49]),
 .o 12 (.mv (.k 50))] false [3,4,6,7,8,12] [3,4,6,7,8])
 (.seq (.seq (.reg [] [.o 51 (.fa 5 (.t 4)),
 .o 52 (.ld false 1 .cp (.k 51)),
 .o 53 (.bin .eql (.k 52) (.c (.i .i64 0)))] false [3,4,6,7,8,12,53] [3,4,6,7,8])
 (.cond 53 (.seq (.reg [] [.z 55 (.ld true 1 .cp (.t 3)) 2,
 .o 56 (.mv (.k 12)),
 .o 57 (.call n_c_ref05_Read [.k 55,.k 56]),
 .o 54 (.mv (.k 57)),
 .o 58 (.ex false 0 54),
 .o 59 (.ex false 1 54),
 .o 60 (.fa 11 (.t 4)),
 .s (.st 1 (.k 60) (.k 58)),
 .o 61 (.fa 13 (.t 4)),
 .s (.st 2 (.k 61) (.k 59))] false [3,4,6,7,8] [3,4,6,7,8])
 (.seq (.reg [] [.o 62 (.fa 5 (.t 4)),
 .s (.st 1 (.k 62) (.c (.i .i64 1)))] false [3,4,6,7,8] [3,4,6,7,8])
 (.seq (.reg [] [.o 63 (.ld true 1 .cp (.k 3)),
 .u 64 (.ld true 17 .cp (.k 4)) [0] 0,
 .u 65 (.bd ([.b false,.i .u64 0,.i .i64 0,.i .i64 0]) []) [0,1] 0,
 ⟨none,none,.st 1 (.t 6) (.k 63),[1,2],0⟩,
 ⟨none,none,.st 17 (.t 7) (.k 64),[2],0⟩,
 .s (.st 4 (.t 8) (.k 65)),
 .o 9 (.mv (.c (.b false)))] true [6,7,8,9] [6,7,8])
 .ret)))
 .skip))
 (.seq (.reg [] [.o 66 (.fa 5 (.t 4)),
 .s (.st 1 (.k 66) (.c (.i .i64 0)))] false [3,4,6,7,8,12] [3,4,6,7,8])
 (.seq (.reg [] [.z 68 (.ld true 1 .tk (.k 3)) 2,
 .o 69 (.mv (.k 12)),
 .o 70 (.fa 11 (.t 4)),
 .o 71 (.ld false 1 .cp (.k 70)),
 .o 72 (.fa 13 (.t 4)),
 .o 73 (.fa 0 (.k 72)),
 .o 74 (.ld false 1 .cp (.k 73)),
 .o 75 (.fa 1 (.t 4)),
 .o 76 (.fa 1 (.k 75)),
 .o 77 (.ld false 1 .cp (.k 76)),
 .o 78 (.bin .add (.k 74) (.k 77)),
 .z 79 (.bd ([.i .i64 0,.l .o 2 []]) [(0,1,.k 78)]) 2,
 .o 80 (.call n_c_ref05_Write [.k 68,.k 69,.k 71,.k 79]),
 .o 67 (.mv (.k 80)),
 .o 81 (.ex false 0 67),
 .o 82 (.ex false 1 67),
 .o 13 (.al ([.l .o 3 []])),
 .s (.st 1 (.t 13) (.k 81)),
 .o 14 (.mv (.k 82))] false [4,6,7,8,13,14] [4,6,7,8,13])
 (.seq (.reg [] [.o 83 (.ld true 1 .cp (.k 13)),
 .u 84 (.ld true 17 .cp (.k 4)) [0] 0,
 .u 85 (.mv (.t 14)) [0,1] 0,
 .u 86 (.bd ([.b false,.i .u64 0,.i .i64 0,.i .i64 0]) [(0,1,.k 85)]) [0,1] 0,
 .u 87 (.mv (.t 14)) [0,1,2,3] 0,
 ⟨none,none,.st 1 (.t 6) (.k 83),[1,2,3,4],0⟩,
 ⟨none,none,.st 17 (.t 7) (.k 84),[2,3,4],0⟩,
 ⟨none,none,.st 4 (.t 8) (.k 86),[4],0⟩,
 .o 9 (.mv (.k 87))] true [6,7,8,9] [6,7,8])
 .ret)))))))⟩

def F_c_ref11_Step : F := ⟨3,[.inr (6,true,1),.inr (7,true,17),.inr (8,true,4),.inl 9],
 (.seq (.reg [.zz 0,.zz 1,.zz 2] [.o 3 (.bx (.k 0)),
 .o 4 (.bx (.k 1)),
 .o 5 (.bx (.k 2)),
 .o 6 (.al ([.l .o 3 []])),
 .o 7 (.al ([.i .i64 0,.i .u64 0,.i .i64 0,.i .i64 0,.i .i64 0,.i .i64 0,.i .i64 0,.i .i64 0,.i .i64 0,.i .i64 0,.b false,.i .i64 0,.i .i64 0,.i .i64 0,.l .o 2 [],.i .i64 0,.l .o 2 []])),
 .o 8 (.al ([.b false,.i .u64 0,.i .i64 0,.i .i64 0])),
 .o 9 (.mv (.c (.b false)))] false [3,4,5,6,7,8] [3,4,5,6,7,8])
 (.seq (.reg [] [.o 16 (.fa 1 (.t 5)),
 .o 17 (.ld false 1 .cp (.k 16)),
 .o 18 (.len false (.k 17)),
 .o 10 (.mv (.k 18))] false [3,4,5,6,7,8,10] [3,4,5,6,7,8])
 (.seq (.seq (.reg [] [.o 19 (.fa 5 (.t 4)),
 .o 20 (.ld false 1 .cp (.k 19)),
 .o 21 (.bin .eql (.k 20) (.c (.i .i64 0)))] false [3,4,5,6,7,8,10,21] [3,4,5,6,7,8])
 (.cond 21 (.reg [] [.o 22 (.fa 3 (.t 4)),
 .o 23 (.ld false 1 .cp (.k 22)),
 .o 24 (.mv (.t 10)),
 .o 25 (.call n_c_ref06_Into [.k 23,.k 24]),
 .o 26 (.fa 5 (.t 4)),
 .s (.st 1 (.k 26) (.c (.i .i64 1))),
 .o 27 (.fa 6 (.t 4)),
 .s (.st 1 (.k 27) (.k 25))] false [3,4,5,6,7,8,10] [3,4,5,6,7,8])
 .skip))
 (.seq (.seq (.reg [] [.o 28 (.fa 7 (.t 4)),
 .o 29 (.ld false 1 .cp (.k 28)),
 .o 11 (.mv (.k 29))] false [3,4,5,6,7,8,10,11] [3,4,5,6,7,8])
 (.blk 0 (.loop (.seq (.seq (.reg [] [.o 30 (.mv (.t 11)),
 .o 31 (.fa 0 (.t 5)),
 .o 32 (.ld false 1 .cp (.k 31)),
 .o 33 (.len false (.k 32)),
 .o 34 (.bin .quo (.k 33) (.c (.i .i64 2))),
 .o 35 (.bin .lss (.k 30) (.k 34))] false [3,4,5,6,7,8,10,11,35] [3,4,5,6,7,8])
 (.cond 35 .skip
 (.exit 0)))
 (.seq (.blk 1 (.seq (.seq (.reg [] [.o 38 (.fa 0 (.t 5)),
 .o 39 (.ld false 1 .cp (.k 38)),
 .u 40 (.mv (.t 11)) [0,1] 0,
 .u 41 (.bin .mul (.c (.i .i64 2)) (.k 40)) [0,1] 0,
 .o 42 (.ia 1 none (.k 39) (.k 41)),
 .o 43 (.ld false 1 .cp (.k 42)),
 .u 44 (.fa 6 (.t 4)) [0,1,2,3,4,5] 0,
 .u 45 (.ld false 1 .cp (.k 44)) [0,1,2,3,4,5] 0,
 .o 46 (.bin .neq (.k 43) (.k 45)),
 .o 47 (.mv (.k 46)),
 .c 47 true 48 (.fa 0 (.t 5)),
 .c 47 true 49 (.ld false 1 .cp (.k 48)),
 ⟨some 50,some (47,true),.mv (.t 11),[10,11],0⟩,
 ⟨some 51,some (47,true),.bin .mul (.c (.i .i64 2)) (.k 50),[10,11],0⟩,
 ⟨some 52,some (47,true),.bin .add (.k 51) (.c (.i .i64 1)),[10,11],0⟩,
 .c 47 true 53 (.ia 1 none (.k 49) (.k 52)),
 .c 47 true 54 (.ld false 1 .cp (.k 53)),
 ⟨some 55,some (47,true),.fa 6 (.t 4),[10,11,12,13,14,15,16],0⟩,
 ⟨some 56,some (47,true),.ld false 1 .cp (.k 55),[10,11,12,13,14,15,16],0⟩,
 .c 47 true 57 (.bin .neq (.k 54) (.k 56)),
 .o 58 (.pick (.t 47) (.k 57) (.c (.b false)))] true [3,4,5,6,7,8,10,11,58] [3,4,5,6,7,8])
 (.cond 58 (.exit 1)
 .skip))
 (.seq (.reg [] [.o 12 (.mv (.c (.i .i64 0)))] false [3,4,5,6,7,8,11] [3,4,5,6,7,8])
 (.seq (.reg [] [.z 60 (.ld true 1 .cp (.t 3)) 2,
 .o 61 (.mv (.t 11)),
 .o 62 (.call n_c_ref11_more [.k 60,.k 61]),
 .o 59 (.mv (.k 62)),
 .o 63 (.ex false 0 59),
 .o 64 (.ex false 1 59),
 .s (.st 1 (.t 3) (.k 63)),
 .o 12 (.mv (.k 64))] false [3,4,5,6,7,8,11,12] [3,4,5,6,7,8])
 (.seq (.reg [] [.o 65 (.mv (.t 11)),
 .o 66 (.bin .add (.k 65) (.c (.i .i64 1))),
 .u 67 (.fa 0 (.k 5)) [0,1] 0,
 .u 68 (.ld false 1 .cp (.k 67)) [0,1] 0,
 .u 69 (.mv (.t 11)) [0,1,2,3] 0,
 .u 70 (.bin .mul (.c (.i .i64 2)) (.k 69)) [0,1,2,3] 0,
 .u 71 (.mv (.k 12)) [0,1,2,3,4,5] 0,
 .u 72 (.bin .rem (.k 71) (.c (.i .i64 2))) [0,1,2,3,4,5] 0,
 .u 73 (.bin .add (.k 70) (.k 72)) [0,1,2,3] 0,
 .u 74 (.ia 1 none (.k 68) (.k 73)) [0,1] 0,
 .u 75 (.ld false 1 .cp (.k 74)) [0,1] 0,
 .u 76 (.fa 7 (.t 4)) [2,3,4,5,6,7,8,9,10] 0,
 ⟨none,none,.st 1 (.k 76) (.k 66),[2,3,4,5,6,7,8,9,10],0⟩,
 .o 77 (.fa 6 (.t 4)),
 .s (.st 1 (.k 77) (.k 75))] true [3,4,6,7,8] [3,4,6,7,8])
 (.seq (.reg [] [.o 78 (.ld true 1 .cp (.k 3)),
 .u 79 (.ld true 17 .cp (.k 4)) [0] 0,
 .u 80 (.bd ([.b false,.i .u64 0,.i .i64 0,.i .i64 0]) []) [0,1] 0,
 ⟨none,none,.st 1 (.t 6) (.k 78),[1,2],0⟩,
 ⟨none,none,.st 17 (.t 7) (.k 79),[2],0⟩,
 .s (.st 4 (.t 8) (.k 80)),
 .o 9 (.mv (.c (.b false)))] true [6,7,8,9] [6,7,8])
 .ret))))))
 (.reg [] [.o 36 (.mv (.k 11)),
 .o 37 (.bin .add (.k 36) (.c (.i .i64 1))),
 .o 11 (.mv (.k 37))] false [3,4,5,6,7,8,10,11] [3,4,5,6,7,8]))))))
 (.seq (.reg [] [.o 13 (.mv (.c (.i .i64 0)))] false [3,4,5,6,7,8,10,13] [3,4,5,6,7,8])
 (.seq (.seq (.reg [] [.o 81 (.fa 1 (.t 5)),
 .o 82 (.ld false 1 .cp (.k 81)),
 .o 83 (.len false (.k 82)),
 .o 84 (.mv (.c (.i .i64 0)))] false [3,4,5,6,7,8,10,13,83,84] [3,4,5,6,7,8])
 (.blk 2 (.loop (.seq (.reg [] [.o 85 (.bin .lss (.t 84) (.t 83))] false [3,4,5,6,7,8,10,13,83,84,85] [3,4,5,6,7,8])
 (.seq (.cond 85 .skip
 (.exit 2))
 (.seq (.blk 3 (.seq (.reg [] [.o 86 (.mv (.t 84)),
 .o 14 (.mv (.k 86))] false [3,4,5,6,7,8,10,13,14,83,84] [3,4,5,6,7,8])
 (.seq (.reg [] [.o 87 (.fa 1 (.t 5)),
 .o 88 (.ld false 1 .cp (.k 87)),
 .u 89 (.mv (.t 14)) [0,1] 0,
 .o 90 (.ia 1 none (.k 88) (.k 89)),
 .o 91 (.ld false 1 .cp (.k 90)),
 .u 92 (.fa 6 (.t 4)) [0,1,2,3,4] 0,
 .u 93 (.ld false 1 .cp (.k 92)) [0,1,2,3,4] 0,
 .o 94 (.bin .eql (.k 91) (.k 93))] true [3,4,5,6,7,8,10,13,14,83,84,94] [3,4,5,6,7,8])
 (.cond 94 (.reg [] [.o 95 (.mv (.k 14)),
 .o 13 (.mv (.k 95))] false [3,4,5,6,7,8,10,13,83,84] [3,4,5,6,7,8])
 .skip))))
 (.reg [] [.o 96 (.bin .add (.k 84) (.c (.i .i64 1))),
 .o 84 (.mv (.k 96))] false [3,4,5,6,7,8,10,13,83,84] [3,4,5,6,7,8])))))))
 (.seq (.reg [] [.o 15 (.mv (.c (.i .i64 0)))] false [3,4,5,6,7,8,10,13] [3,4,5,6,7,8])
 (.seq (.reg [] [.z 98 (.ld true 1 .cp (.t 3)) 2,
 .o 99 (.fa 0 (.k 5)),
 .o 100 (.ld false 1 .tk (.k 99)),
 .o 101 (.len false (.k 100)),
 .o 102 (.bin .quo (.k 101) (.c (.i .i64 2))),
 .o 103 (.mv (.t 13)),
 .o 104 (.bin .add (.k 102) (.k 103)),
 .o 105 (.call n_c_ref11_more [.k 98,.k 104]),
 .o 97 (.mv (.k 105)),
 .o 106 (.ex false 0 97),
 .o 107 (.ex false 1 97),
 .s (.st 1 (.t 3) (.k 106)),
 .o 15 (.mv (.k 107))] false [3,4,6,7,8,10,13,15] [3,4,6,7,8])
 (.seq (.reg [] [.o 108 (.ld true 1 .cp (.k 3)),
 .u 109 (.ld true 17 .cp (.k 4)) [0] 0,
 .u 110 (.mv (.k 13)) [0,1] 0,
 .u 111 (.mv (.k 10)) [0,1,2] 0,
 .u 112 (.mv (.k 15)) [0,1,2,3] 0,
 .u 113 (.bin .mul (.k 111) (.k 112)) [0,1,2] 0,
 .u 114 (.bin .add (.k 110) (.k 113)) [0,1] 0,
 .u 115 (.bd ([.b false,.i .u64 0,.i .i64 0,.i .i64 0]) [(0,1,.c (.b true)),(3,1,.k 114)]) [0,1] 0,
 ⟨none,none,.st 1 (.t 6) (.k 108),[1,2,3,4,5,6,7],0⟩,
 ⟨none,none,.st 17 (.t 7) (.k 109),[2,3,4,5,6,7],0⟩,
 .s (.st 4 (.t 8) (.k 115)),
 .o 9 (.mv (.c (.b true)))] true [6,7,8,9] [6,7,8])
 .ret)))))))))⟩

def F_c_ref10_Count : F := ⟨2,[.inr (4,true,2)],
 (.seq (.reg [] [.o 4 (.al ([.l .o 1 [],.l .o 1 []]))] false [0,1,4] [4])
 (.seq (.seq (.reg [] [.o 8 (.mv (.t 1)),
 .o 9 (.bin .eql (.k 8) (.c (.i .i64 1)))] false [0,1,4,9] [4])
 (.cond 9 (.seq (.reg [] [.z 10 (.bs 1 0 (.i .i64 0) []) 1,
 .o 11 (.mv (.k 0)),
 .z 12 (.bs 1 1 (.i .i64 0) [(0,.k 11)]) 1,
 .o 13 (.bd ([.l .o 1 [],.l .o 1 []]) [(0,1,.k 10),(1,1,.k 12)]),
 .s (.st 2 (.t 4) (.k 13))] false [4] [4])
 .ret)
 .skip))
 (.seq (.reg [] [.o 14 (.mv (.t 0)),
 .o 15 (.mv (.t 1)),
 .o 16 (.bin .quo (.k 15) (.c (.i .i64 2))),
 .o 17 (.callp n_c_ref10_Count [.k 14,.k 16]),
 .o 5 (.al ([.l .o 1 [],.l .o 1 []])),
 .s (.st 2 (.t 5) (.k 17))] false [0,1,4,5] [4,5])
 (.seq (.reg [] [.o 18 (.mv (.k 0)),
 .o 19 (.mv (.t 1)),
 .o 20 (.bin .quo (.k 19) (.c (.i .i64 2))),
 .o 21 (.bin .add (.k 18) (.k 20)),
 .o 22 (.mv (.k 1)),
 .o 23 (.bin .quo (.k 22) (.c (.i .i64 2))),
 .o 24 (.callp n_c_ref10_Count [.k 21,.k 23]),
 .o 6 (.al ([.l .o 1 [],.l .o 1 []])),
 .s (.st 2 (.t 6) (.k 24))] false [4,5,6] [4,5,6])
 (.seq (.reg [] [.o 25 (.fa 1 (.t 5)),
 .z 26 (.ld false 1 .cp (.k 25)) 2,
 .o 27 (.fa 1 (.t 6)),
 .z 28 (.ld false 1 .cp (.k 27)) 2,
 .o 29 (.call n_c_ref10_Merge [.k 26,.k 28]),
 .o 7 (.al ([.l .o 1 [],.l .o 1 []])),
 .s (.st 2 (.t 7) (.k 29))] false [4,5,6,7] [4,5,6,7])
 (.seq (.reg [] [.z 30 (.bs 1 0 (.i .i64 0) []) 1,
 .u 31 (.fa 0 (.k 5)) [0] 0,
 .u 32 (.ld false 1 .cp (.k 31)) [0] 0,
 .z 33 (.app 1 8 (.k 30) (.k 32)) 1,
 .u 34 (.fa 0 (.k 6)) [0,1,2,3] 0,
 .u 35 (.ld false 1 .cp (.k 34)) [0,1,2,3] 0,
 .z 36 (.app 1 8 (.k 33) (.k 35)) 1,
 .u 37 (.fa 0 (.t 7)) [0,1,2,3,4,5,6] 0,
 .u 38 (.ld false 1 .cp (.k 37)) [0,1,2,3,4,5,6] 0,
 .z 39 (.app 1 8 (.k 36) (.k 38)) 1,
 .u 40 (.fa 1 (.t 7)) [0,1,2,3,4,5,6,7,8,9] 0,
 .u 41 (.ld false 1 .cp (.k 40)) [0,1,2,3,4,5,6,7,8,9] 0,
 .o 42 (.bd ([.l .o 1 [],.l .o 1 []]) [(0,1,.k 39),(1,1,.k 41)]),
 .s (.st 2 (.t 4) (.k 42))] true [4] [4])
 .ret))))))⟩

def F_wire_every : F := ⟨2,[.inl 4],
 (.seq (.reg [.zz 0] [.o 4 (.mv (.c (.l .o 1 [])))] false [0,1] [])
 (.seq (.reg [] [.o 5 (.mv (.c (.l .o 1 [])))] false [0,1,5] [])
 (.seq (.seq (.reg [] [.o 7 (.mv (.k 1)),
 .o 6 (.mv (.k 7))] false [0,5,6] [])
 (.blk 0 (.loop (.seq (.seq (.reg [] [.o 8 (.mv (.t 6)),
 .o 9 (.mv (.t 0)),
 .o 10 (.len false (.k 9)),
 .o 11 (.bin .lss (.k 8) (.k 10))] false [0,5,6,11] [])
 (.cond 11 .skip
 (.exit 0)))
 (.seq (.blk 1 (.reg [] [.o 14 (.mv (.k 5)),
 .o 15 (.mv (.t 0)),
 .o 16 (.mv (.t 6)),
 .o 17 (.ia 1 none (.k 15) (.k 16)),
 .o 18 (.ld false 1 .cp (.k 17)),
 .o 19 (.bs 1 1 (.i .i64 0) [(0,.k 18)]),
 .z 20 (.app 1 8 (.k 14) (.k 19)) 1,
 .o 5 (.mv (.k 20))] false [0,5,6] []))
 (.reg [] [.o 12 (.mv (.k 6)),
 .o 13 (.bin .add (.k 12) (.c (.i .i64 2))),
 .o 6 (.mv (.k 13))] false [0,5,6] []))))))
 (.seq (.reg [] [.o 21 (.mv (.k 5)),
 .o 4 (.mv (.k 21))] false [4] [])
 .ret))))⟩

def F_c_ref08_insert : F := ⟨3,[.inr (6,true,1),.inr (7,true,17),.inr (8,true,4),.inl 9],
 (.seq (.reg [.zz 0,.zz 1] [.o 3 (.bx (.k 0)),
 .o 4 (.bx (.k 1)),
 .o 6 (.al ([.l .o 3 []])),
 .o 7 (.al ([.i .i64 0,.i .u64 0,.i .i64 0,.i .i64 0,.i .i64 0,.i .i64 0,.i .i64 0,.i .i64 0,.i .i64 0,.i .i64 0,.b false,.i .i64 0,.i .i64 0,.i .i64 0,.l .o 2 [],.i .i64 0,.l .o 2 []])),
 .o 8 (.al ([.b false,.i .u64 0,.i .i64 0,.i .i64 0])),
 .o 9 (.mv (.c (.b false)))] false [2,3,4,6,7,8] [3,4,6,7,8])
 (.seq (.reg [] [.o 13 (.fa 3 (.t 4)),
 .o 14 (.ld false 1 .cp (.k 13)),
 .o 15 (.mv (.k 2)),
 .o 16 (.call n_c_ref06_Into [.k 14,.k 15]),
 .o 10 (.mv (.k 16))] false [3,4,6,7,8,10] [3,4,6,7,8])
 (.seq (.seq (.reg [] [.o 17 (.fa 5 (.t 4)),
 .o 18 (.ld false 1 .cp (.k 17)),
 .o 19 (.bin .eql (.k 18) (.c (.i .i64 0)))] false [3,4,6,7,8,10,19] [3,4,6,7,8])
 (.cond 19 (.seq (.reg [] [.z 21 (.ld true 1 .cp (.t 3)) 2,
 .o 22 (.mv (.k 10)),
 .o 23 (.call n_c_ref05_Read [.k 21,.k 22]),
 .o 20 (.mv (.k 23)),
 .o 24 (.ex false 0 20),
 .o 25 (.ex false 1 20),
 .o 26 (.fa 11 (.t 4)),
 .s (.st 1 (.k 26) (.k 24)),
 .o 27 (.fa 13 (.t 4)),
 .s (.st 2 (.k 27) (.k 25))] false [3,4,6,7,8] [3,4,6,7,8])
 (.seq (.reg [] [.o 28 (.fa 5 (.t 4)),
 .s (.st 1 (.k 28) (.c (.i .i64 1)))] false [3,4,6,7,8] [3,4,6,7,8])
 (.seq (.reg [] [.o 29 (.ld true 1 .cp (.k 3)),
 .u 30 (.ld true 17 .cp (.t 4)) [0] 0,
 .u 31 (.bd ([.b false,.i .u64 0,.i .i64 0,.i .i64 0]) []) [0,1] 0,
 .u 32 (.fa 13 (.t 4)) [0,1,2] 0,
 .u 33 (.fa 1 (.k 32)) [0,1,2] 0,
 .u 34 (.ld false 1 .cp (.k 33)) [0,1,2] 0,
 .u 35 (.len false (.k 34)) [0,1,2] 0,
 .u 36 (.bin .gtr (.k 35) (.c (.i .i64 61))) [0,1,2] 0,
 ⟨none,none,.st 1 (.t 6) (.k 29),[1,2,3,4,5,6,7],0⟩,
 ⟨none,none,.st 17 (.t 7) (.k 30),[2,3,4,5,6,7],0⟩,
 ⟨none,none,.st 4 (.t 8) (.k 31),[3,4,5,6,7],0⟩,
 .o 9 (.mv (.k 36))] true [6,7,8,9] [6,7,8])
 .ret)))
 .skip))
 (.seq (.reg [] [.o 37 (.fa 5 (.t 4)),
 .s (.st 1 (.k 37) (.c (.i .i64 0)))] false [3,4,6,7,8,10] [3,4,6,7,8])
 (.seq (.reg [] [.z 39 (.ld true 1 .cp (.t 3)) 2,
 .u 40 (.mv (.k 10)) [0] 0,
 .u 41 (.fa 11 (.t 4)) [0,1] 0,
 .u 42 (.ld false 1 .cp (.k 41)) [0,1] 0,
 .u 43 (.fa 13 (.t 4)) [0,1,2,3] 0,
 .u 44 (.fa 1 (.k 43)) [0,1,2,3] 0,
 .u 45 (.ld false 1 .cp (.k 44)) [0,1,2,3] 2,
 .u 46 (.fa 1 (.t 4)) [0,1,2,3,4,5,6] 0,
 .u 47 (.ld true 2 .cp (.k 46)) [0,1,2,3,4,5,6] 0,
 .u 48 (.call n_c_ref04_With [.k 45,.k 47]) [0,1,2,3] 0,
 .u 49 (.bd ([.i .i64 0,.l .o 2 []]) [(1,1,.k 48)]) [0,1,2,3] 2,
 .o 50 (.call n_c_ref05_Write [.k 39,.k 40,.k 42,.k 49]),
 .o 38 (.mv (.k 50)),
 .o 51 (.ex false 0 38),
 .u 52 (.ex false 1 38) [13] 0,
 .u 11 (.al ([.l .o 3 []])) [0,1,2,3,4,5,6,7,8,9,10,11,12,13,14] 0,
 ⟨none,none,.st 1 (.t 11) (.k 51),[14],0⟩,
 .o 12 (.mv (.k 52))] true [3,4,6,7,8,11,12] [3,4,6,7,8,11])
 (.seq (.seq (.reg [] [.o 53 (.mv (.k 12)),
 .o 54 (.un .not (.k 53))] false [3,4,6,7,8,11,54] [3,4,6,7,8,11])
 (.cond 54 (.seq (.reg [] [.o 55 (.ld true 1 .cp (.k 3)),
 .u 56 (.ld true 17 .cp (.k 4)) [0] 0,
 .u 57 (.bd ([.b false,.i .u64 0,.i .i64 0,.i .i64 0]) []) [0,1] 0,
 ⟨none,none,.st 1 (.t 6) (.k 55),[1,2],0⟩,
 ⟨none,none,.st 17 (.t 7) (.k 56),[2],0⟩,
 .s (.st 4 (.t 8) (.k 57)),
 .o 9 (.mv (.c (.b false)))] true [6,7,8,9] [6,7,8])
 .ret)
 .skip))
 (.seq (.reg [] [.o 58 (.ld true 1 .cp (.k 11)),
 .u 59 (.ld true 17 .cp (.t 4)) [0] 0,
 .u 60 (.fa 1 (.t 4)) [0,1] 0,
 .u 61 (.ld true 2 .cp (.k 60)) [0,1] 0,
 .u 62 (.bd ([.b false,.i .u64 0,.i .i64 0,.i .i64 0]) [(0,1,.c (.b true)),(1,2,.k 61)]) [0,1] 0,
 ⟨none,none,.st 1 (.t 6) (.k 58),[1,2,3,4],0⟩,
 ⟨none,none,.st 17 (.t 7) (.k 59),[2,3,4],0⟩,
 .s (.st 4 (.t 8) (.k 62)),
 .o 9 (.mv (.c (.b true)))] true [6,7,8,9] [6,7,8])
 .ret)))))))⟩

def F_c_ref04_Cmp : F := ⟨2,[.inl 4],
 (.seq (.reg [] [.o 2 (.bx (.k 0)),
 .o 3 (.bx (.k 1)),
 .o 4 (.mv (.c (.i .i64 0)))] false [2,3] [2,3])
 (.seq (.reg [] [.o 6 (.fa 0 (.t 2)),
 .o 7 (.ld false 1 .cp (.k 6)),
 .o 8 (.fa 0 (.t 3)),
 .o 9 (.ld false 1 .cp (.k 8)),
 .o 10 (.call n_c_ref03_Cmp [.k 7,.k 9]),
 .o 5 (.mv (.k 10))] false [2,3,5] [2,3])
 (.seq (.seq (.reg [] [.o 11 (.mv (.t 5)),
 .o 12 (.bin .eql (.k 11) (.c (.i .i64 0))),
 .o 13 (.mv (.k 12)),
 .c 13 true 14 (.fa 1 (.t 2)),
 .c 13 true 15 (.ld false 1 .cp (.k 14)),
 .c 13 true 16 (.fa 1 (.t 3)),
 .c 13 true 17 (.ld false 1 .cp (.k 16)),
 .c 13 true 18 (.bin .lss (.k 15) (.k 17)),
 .o 19 (.pick (.k 13) (.k 18) (.c (.b false)))] false [2,3,5,19] [2,3])
 (.cond 19 (.reg [] [.o 5 (.mv (.c (.i .i64 (-1))))] false [2,3,5] [2,3])
 .skip))
 (.seq (.seq (.reg [] [.o 20 (.mv (.t 5)),
 .o 21 (.bin .eql (.k 20) (.c (.i .i64 0))),
 .o 22 (.mv (.k 21)),
 .c 22 true 23 (.fa 1 (.k 2)),
 .c 22 true 24 (.ld false 1 .cp (.k 23)),
 .c 22 true 25 (.fa 1 (.k 3)),
 .c 22 true 26 (.ld false 1 .cp (.k 25)),
 .c 22 true 27 (.bin .gtr (.k 24) (.k 26)),
 .o 28 (.pick (.k 22) (.k 27) (.c (.b false)))] false [5,28] [])
 (.cond 28 (.reg [] [.o 5 (.mv (.c (.i .i64 1)))] false [5] [])
 .skip))
 (.seq (.reg [] [.o 29 (.mv (.k 5)),
 .o 4 (.mv (.k 29))] false [4] [])
 .ret)))))⟩

def F_c_ref05_Write : F := ⟨4,[.inr (8,true,1),.inl 9],
 (.seq (.reg [.zz 0,.zz 3] [.o 4 (.bx (.k 0)),
 .o 7 (.bx (.k 3)),
 .o 8 (.al ([.l .o 3 []])),
 .o 9 (.mv (.c (.b false)))] false [1,2,4,7,8] [4,7,8])
 (.seq (.reg [] [.z 13 (.ld true 1 .cp (.t 4)) 2,
 .o 14 (.mv (.t 1)),
 .o 15 (.call n_c_ref05_Read [.k 13,.k 14]),
 .o 12 (.mv (.k 15)),
 .o 16 (.ex false 0 12),
 .o 17 (.ex false 1 12),
 .o 11 (.al ([.i .i64 0,.l .o 2 []])),
 .o 10 (.mv (.k 16)),
 .s (.st 2 (.k 11) (.k 17))] false [1,2,4,7,8,10] [4,7,8])
 (.seq (.seq (.reg [] [.o 18 (.mv (.t 1)),
 .o 19 (.bin .lss (.k 18) (.c (.i .i64 0))),
 .o 20 (.mv (.k 19)),
 .c 20 false 21 (.mv (.t 1)),
 .c 20 false 22 (.bin .geq (.k 21) (.c (.i .i64 1000))),
 .o 23 (.pick (.k 20) (.c (.b true)) (.k 22)),
 .o 24 (.mv (.k 23)),
 .c 24 false 25 (.mv (.k 10)),
 .c 24 false 26 (.mv (.k 2)),
 .c 24 false 27 (.bin .neq (.k 25) (.k 26)),
 .o 28 (.pick (.k 24) (.c (.b true)) (.k 27))] false [1,4,7,8,28] [4,7,8])
 (.cond 28 (.seq (.reg [] [.o 29 (.ld true 1 .tk (.k 4)),
 .s (.st 1 (.t 8) (.k 29)),
 .o 9 (.mv (.c (.b false)))] false [8,9] [8])
 .ret)
 .skip))
 (.seq (.reg [] [.z 30 (.bs 3 0 (.a ([.i .i64 0,.i .i64 0,.l .o 2 []])) []) 1,
 .u 31 (.fa 0 (.k 4)) [0] 0,
 .u 32 (.ld false 1 .cp (.k 31)) [0] 0,
 .z 33 (.app 3 40 (.k 30) (.k 32)) 1,
 .u 34 (.mv (.k 1)) [0,1,2,3] 0,
 .u 35 (.ld true 2 .cp (.k 7)) [0,1,2,3,4] 0,
 .u 36 (.bd ([.i .i64 0,.i .i64 0,.l .o 2 []]) [(0,1,.k 34),(1,2,.k 35)]) [0,1,2,3] 0,
 .u 37 (.bs 3 1 (.a ([.i .i64 0,.i .i64 0,.l .o 2 []])) [(0,.k 36)]) [0,1,2,3] 0,
 .z 38 (.app 3 40 (.k 33) (.k 37)) 1,
 .o 39 (.bd ([.l .o 3 []]) [(0,1,.k 38)]),
 .s (.st 1 (.t 8) (.k 39)),
 .o 9 (.mv (.c (.b true)))] true [8,9] [8])
 .ret))))⟩

def F_c_ref09_enq : F := ⟨3,[.inr (6,true,1),.inr (7,true,17),.inr (8,true,4),.inl 9],
 (.seq (.reg [.zz 0,.zz 1] [.o 3 (.bx (.k 0)),
 .o 4 (.bx (.k 1)),
 .o 6 (.al ([.l .o 3 []])),
 .o 7 (.al ([.i .i64 0,.i .u64 0,.i .i64 0,.i .i64 0,.i .i64 0,.i .i64 0,.i .i64 0,.i .i64 0,.i .i64 0,.i .i64 0,.b false,.i .i64 0,.i .i64 0,.i .i64 0,.l .o 2 [],.i .i64 0,.l .o 2 []])),
 .o 8 (.al ([.b false,.i .u64 0,.i .i64 0,.i .i64 0])),
 .o 9 (.mv (.c (.b false)))] false [2,3,4,6,7,8] [3,4,6,7,8])
 (.seq (.seq (.reg [] [.o 14 (.fa 5 (.t 4)),
 .o 15 (.ld false 1 .cp (.k 14))] false [2,3,4,6,7,8,15] [3,4,6,7,8])
 (.blk 0 (.seq (.reg [] [.o 17 (.bin .eql (.t 15) (.c (.i .i64 0))),
 .o 16 (.mv (.k 17))] false [2,3,4,6,7,8,15,16] [3,4,6,7,8])
 (.cond 16 (.seq (.reg [] [.z 19 (.ld true 1 .cp (.t 3)) 2,
 .o 20 (.call n_c_ref05_Read [.k 19,.c (.i .i64 1)]),
 .o 18 (.mv (.k 20)),
 .o 21 (.ex false 0 18),
 .o 22 (.ex false 1 18),
 .o 23 (.fa 11 (.t 4)),
 .s (.st 1 (.k 23) (.k 21)),
 .o 24 (.fa 13 (.t 4)),
 .s (.st 2 (.k 24) (.k 22))] false [2,3,4,6,7,8] [3,4,6,7,8])
 (.seq (.reg [] [.o 25 (.fa 13 (.t 4)),
 .o 26 (.fa 0 (.k 25)),
 .o 27 (.ld false 1 .cp (.k 26)),
 .o 28 (.fa 8 (.t 4)),
 .s (.st 1 (.k 28) (.k 27))] false [2,3,4,6,7,8] [3,4,6,7,8])
 (.seq (.reg [] [.o 29 (.fa 3 (.t 4)),
 .o 30 (.ld false 1 .cp (.k 29)),
 .o 31 (.mv (.t 2)),
 .o 32 (.call n_c_ref06_Into [.k 30,.k 31]),
 .o 33 (.fa 6 (.t 4)),
 .s (.st 1 (.k 33) (.k 32)),
 .o 34 (.fa 7 (.t 4)),
 .s (.st 1 (.k 34) (.c (.i .i64 0))),
 .o 35 (.fa 5 (.t 4)),
 .s (.st 1 (.k 35) (.c (.i .i64 1)))] false [2,3,4,6,7,8] [3,4,6,7,8])
 (.seq (.reg [] [.o 36 (.ld true 1 .cp (.k 3)),
 .u 37 (.ld true 17 .cp (.t 4)) [0] 0,
 .u 38 (.bd ([.b false,.i .u64 0,.i .i64 0,.i .i64 0]) []) [0,1] 0,
 .u 39 (.fa 8 (.t 4)) [0,1,2] 0,
 .u 40 (.ld false 1 .cp (.k 39)) [0,1,2] 0,
 .u 41 (.bin .add (.k 40) (.c (.i .i64 1))) [0,1,2] 0,
 .u 42 (.mv (.k 2)) [0,1,2,3,4,5] 0,
 .u 43 (.call n_c_ref09_Slot [.k 41,.c (.i .i64 0),.k 42]) [0,1,2] 0,
 .u 44 (.bin .gtr (.k 43) (.c (.i .i64 1000))) [0,1,2] 0,
 ⟨none,none,.st 1 (.t 6) (.k 36),[1,2,8],0⟩,
 ⟨none,none,.st 17 (.t 7) (.k 37),[2,8],0⟩,
 ⟨none,none,.st 4 (.t 8) (.k 38),[8],0⟩,
 .o 9 (.mv (.k 44))] true [6,7,8,9] [6,7,8])
 .ret))))
 (.seq (.reg [] [.o 46 (.bin .eql (.t 15) (.c (.i .i64 1))),
 .o 45 (.mv (.k 46))] false [2,3,4,6,7,8,15,45] [3,4,6,7,8])
 (.cond 45 (.seq (.reg [] [.z 48 (.ld true 1 .cp (.t 3)) 2,
 .u 49 (.ld true 17 .cp (.t 4)) [0] 2,
 .u 50 (.mv (.t 2)) [0,1] 0,
 .u 51 (.call n_c_ref09_slot [.k 49,.k 50]) [0] 0,
 .o 52 (.call n_c_ref05_Read [.k 48,.k 51]),
 .o 47 (.mv (.k 52)),
 .o 53 (.ex false 0 47),
 .u 54 (.ex false 1 47) [6] 0,
 .u 55 (.fa 12 (.t 4)) [7] 0,
 ⟨none,none,.st 1 (.k 55) (.k 53),[7],0⟩,
 .o 56 (.fa 15 (.t 4)),
 .s (.st 2 (.k 56) (.k 54))] true [2,3,4,6,7,8] [3,4,6,7,8])
 (.seq (.seq (.reg [] [.o 57 (.fa 15 (.t 4)),
 .o 58 (.fa 0 (.k 57)),
 .o 59 (.ld false 1 .cp (.k 58)),
 .o 60 (.bin .eql (.k 59) (.c (.i .i64 0)))] false [2,3,4,6,7,8,60] [3,4,6,7,8])
 (.cond 60 (.reg [] [.o 61 (.fa 5 (.t 4)),
 .s (.st 1 (.k 61) (.c (.i .i64 2)))] false [3,4,6,7,8] [3,4,6,7,8])
 (.seq (.reg [] [.o 62 (.fa 7 (.t 4)),
 .o 63 (.ld false 1 .cp (.k 62)),
 .o 64 (.bin .add (.k 63) (.c (.i .i64 1))),
 .o 65 (.fa 7 (.t 4)),
 .s (.st 1 (.k 65) (.k 64))] false [2,3,4,6,7,8] [3,4,6,7,8])
 (.seq (.reg [] [.o 66 (.fa 7 (.t 4)),
 .o 67 (.ld false 1 .cp (.k 66)),
 .o 68 (.mv (.k 2)),
 .o 69 (.bin .eql (.k 67) (.k 68))] false [3,4,6,7,8,69] [3,4,6,7,8])
 (.cond 69 (.reg [] [.o 70 (.fa 5 (.t 4)),
 .s (.st 1 (.k 70) (.c (.i .i64 3)))] false [3,4,6,7,8] [3,4,6,7,8])
 .skip)))))
 (.seq (.reg [] [.o 71 (.ld true 1 .cp (.k 3)),
 .u 72 (.ld true 17 .cp (.k 4)) [0] 0,
 .u 73 (.bd ([.b false,.i .u64 0,.i .i64 0,.i .i64 0]) []) [0,1] 0,
 ⟨none,none,.st 1 (.t 6) (.k 71),[1,2],0⟩,
 ⟨none,none,.st 17 (.t 7) (.k 72),[2],0⟩,
 .s (.st 4 (.t 8) (.k 73)),
 .o 9 (.mv (.c (.b false)))] true [6,7,8,9] [6,7,8])
 .ret)))
 (.seq (.reg [] [.o 75 (.bin .eql (.k 15) (.c (.i .i64 2))),
 .o 74 (.mv (.k 75))] false [2,3,4,6,7,8,74] [3,4,6,7,8])
 (.cond 74 (.seq (.reg [] [.z 77 (.ld true 1 .cp (.k 3)) 2,
 .u 78 (.ld true 17 .cp (.t 4)) [0] 2,
 .u 79 (.mv (.k 2)) [0,1] 0,
 .u 80 (.call n_c_ref09_slot [.k 78,.k 79]) [0] 0,
 .u 81 (.fa 12 (.t 4)) [0,1,2,3] 0,
 .u 82 (.ld false 1 .cp (.k 81)) [0,1,2,3] 0,
 .u 83 (.fa 1 (.t 4)) [0,1,2,3,4,5] 0,
 .u 84 (.ld true 2 .cp (.k 83)) [0,1,2,3,4,5] 0,
 .u 85 (.bs 2 1 (.a ([.i .u64 0,.i .i64 0])) [(0,.k 84)]) [0,1,2,3,4,5] 1,
 .u 86 (.bd ([.i .i64 0,.l .o 2 []]) [(0,1,.c (.i .i64 1)),(1,1,.k 85)]) [0,1,2,3,4,5] 2,
 .o 87 (.call n_c_ref05_Write [.k 77,.k 80,.k 82,.k 86]),
 .o 76 (.mv (.k 87)),
 .o 88 (.ex false 0 76),
 .u 89 (.ex false 1 76) [12] 0,
 .u 10 (.al ([.l .o 3 []])) [0,1,2,3,4,5,6,7,8,9,10,11,12,13] 0,
 ⟨none,none,.st 1 (.t 10) (.k 88),[13],0⟩,
 .o 11 (.mv (.k 89))] true [4,6,7,8,10,11] [4,6,7,8,10])
 (.seq (.seq (.reg [] [.o 90 (.mv (.k 11))] false [4,6,7,8,10,90] [4,6,7,8,10])
 (.cond 90 (.seq (.reg [] [.o 91 (.ld true 1 .cp (.k 10)),
 .u 92 (.ld true 17 .cp (.t 4)) [0] 0,
 .u 93 (.fa 1 (.t 4)) [0,1] 0,
 .u 94 (.ld true 2 .cp (.k 93)) [0,1] 0,
 .u 95 (.bd ([.b false,.i .u64 0,.i .i64 0,.i .i64 0]) [(0,1,.c (.b true)),(1,2,.k 94)]) [0,1] 0,
 ⟨none,none,.st 1 (.t 6) (.k 91),[1,2,3,4],0⟩,
 ⟨none,none,.st 17 (.t 7) (.k 92),[2,3,4],0⟩,
 .s (.st 4 (.t 8) (.k 95)),
 .o 9 (.mv (.c (.b true)))] true [6,7,8,9] [6,7,8])
 .ret)
 .skip))
 (.seq (.reg [] [.z 96 (.ld true 1 .tk (.k 10)) 2,
 .z 97 (.ld true 17 .tk (.k 4)) 2,
 .o 98 (.call n_c_ref09_again [.k 96,.k 97]),
 .o 99 (.ex false 0 98),
 .o 100 (.ex false 1 98),
 .o 101 (.ex false 2 98),
 .o 102 (.ex false 3 98),
 .s (.st 1 (.t 6) (.k 99)),
 .s (.st 17 (.t 7) (.k 100)),
 .s (.st 4 (.t 8) (.k 101)),
 .o 9 (.mv (.k 102))] false [6,7,8,9] [6,7,8])
 .ret)))
 .skip))))))))
 (.seq (.reg [] [.z 104 (.ld true 1 .tk (.k 3)) 2,
 .o 105 (.fa 11 (.t 4)),
 .o 106 (.ld false 1 .cp (.k 105)),
 .o 107 (.fa 8 (.t 4)),
 .o 108 (.ld false 1 .cp (.k 107)),
 .o 109 (.bin .add (.k 108) (.c (.i .i64 1))),
 .z 110 (.bd ([.i .i64 0,.l .o 2 []]) [(0,1,.k 109)]) 2,
 .o 111 (.call n_c_ref05_Write [.k 104,.c (.i .i64 1),.k 106,.k 110]),
 .o 103 (.mv (.k 111)),
 .o 112 (.ex false 0 103),
 .o 113 (.ex false 1 103),
 .o 12 (.al ([.l .o 3 []])),
 .s (.st 1 (.t 12) (.k 112)),
 .o 13 (.mv (.k 113))] false [4,6,7,8,12] [4,6,7,8,12])
 (.seq (.reg [] [.z 114 (.ld true 1 .tk (.k 12)) 2,
 .z 115 (.ld true 17 .tk (.k 4)) 2,
 .o 116 (.call n_c_ref09_again [.k 114,.k 115]),
 .o 117 (.ex false 0 116),
 .o 118 (.ex false 1 116),
 .o 119 (.ex false 2 116),
 .o 120 (.ex false 3 116),
 .s (.st 1 (.t 6) (.k 117)),
 .s (.st 17 (.t 7) (.k 118)),
 .s (.st 4 (.t 8) (.k 119)),
 .o 9 (.mv (.k 120))] false [6,7,8,9] [6,7,8])
 .ret))))⟩

def F_c_ref09_look : F := ⟨3,[.inr (6,true,1),.inr (7,true,17),.inr (8,true,4),.inl 9],
 (.seq (.reg [.zz 0,.zz 1] [.o 3 (.bx (.k 0)),
 .o 4 (.bx (.k 1)),
 .o 6 (.al ([.l .o 3 []])),
 .o 7 (.al ([.i .i64 0,.i .u64 0,.i .i64 0,.i .i64 0,.i .i64 0,.i .i64 0,.i .i64 0,.i .i64 0,.i .i64 0,.i .i64 0,.b false,.i .i64 0,.i .i64 0,.i .i64 0,.l .o 2 [],.i .i64 0,.l .o 2 []])),
 .o 8 (.al ([.b false,.i .u64 0,.i .i64 0,.i .i64 0])),
 .o 9 (.mv (.c (.b false)))] false [2,3,4,6,7,8] [3,4,6,7,8])
 (.seq (.reg [] [.z 13 (.ld true 1 .cp (.t 3)) 2,
 .u 14 (.ld true 17 .cp (.t 4)) [0] 2,
 .u 15 (.mv (.t 2)) [0,1] 0,
 .u 16 (.call n_c_ref09_slot [.k 14,.k 15]) [0] 0,
 .o 17 (.call n_c_ref05_Read [.k 13,.k 16]),
 .o 12 (.mv (.k 17)),
 .o 18 (.ex false 0 12),
 .u 19 (.ex false 1 12) [6] 0,
 .u 11 (.al ([.i .i64 0,.l .o 2 []])) [0,1,2,3,4,5,6,7] 0,
 .u 10 (.mv (.k 18)) [7] 0,
 .s (.st 2 (.t 11) (.k 19))] true [2,3,4,6,7,8,10,11] [3,4,6,7,8,11])
 (.seq (.seq (.reg [] [.o 20 (.fa 0 (.t 11)),
 .o 21 (.ld false 1 .cp (.k 20)),
 .o 22 (.bin .eql (.k 21) (.c (.i .i64 1)))] false [2,3,4,6,7,8,10,11,22] [3,4,6,7,8,11])
 (.cond 22 (.seq (.reg [] [.o 23 (.mv (.k 10)),
 .u 24 (.ld true 2 .cp (.k 11)) [0] 0,
 .u 25 (.fa 12 (.t 4)) [1] 0,
 ⟨none,none,.st 1 (.k 25) (.k 23),[1],0⟩,
 .o 26 (.fa 15 (.t 4)),
 .s (.st 2 (.k 26) (.k 24)),
 .o 27 (.fa 5 (.t 4)),
 .s (.st 1 (.k 27) (.c (.i .i64 3)))] true [3,4,6,7,8] [3,4,6,7,8])
 (.seq (.reg [] [.o 28 (.ld true 1 .cp (.k 3)),
 .u 29 (.ld true 17 .cp (.k 4)) [0] 0,
 .u 30 (.bd ([.b false,.i .u64 0,.i .i64 0,.i .i64 0]) []) [0,1] 0,
 ⟨none,none,.st 1 (.t 6) (.k 28),[1,2],0⟩,
 ⟨none,none,.st 17 (.t 7) (.k 29),[2],0⟩,
 .s (.st 4 (.t 8) (.k 30)),
 .o 9 (.mv (.c (.b false)))] true [6,7,8,9] [6,7,8])
 .ret))
 .skip))
 (.seq (.reg [] [.o 31 (.fa 10 (.t 4)),
 .o 32 (.ld false 1 .cp (.k 31)),
 .o 33 (.mv (.k 32)),
 .c 33 false 34 (.fa 0 (.k 11)),
 .c 33 false 35 (.ld false 1 .cp (.k 34)),
 .c 33 false 36 (.bin .eql (.k 35) (.c (.i .i64 0))),
 .o 37 (.pick (.k 33) (.c (.b true)) (.k 36)),
 .o 38 (.fa 10 (.t 4)),
 .s (.st 1 (.k 38) (.k 37))] false [2,3,4,6,7,8] [3,4,6,7,8])
 (.seq (.reg [] [.o 39 (.fa 7 (.t 4)),
 .o 40 (.ld false 1 .cp (.k 39)),
 .o 41 (.bin .add (.k 40) (.c (.i .i64 1))),
 .o 42 (.fa 7 (.t 4)),
 .s (.st 1 (.k 42) (.k 41))] false [2,3,4,6,7,8] [3,4,6,7,8])
 (.seq (.seq (.reg [] [.o 43 (.fa 7 (.t 4)),
 .o 44 (.ld false 1 .cp (.k 43)),
 .o 45 (.mv (.k 2)),
 .o 46 (.bin .lss (.k 44) (.k 45))] false [3,4,6,7,8,46] [3,4,6,7,8])
 (.cond 46 (.seq (.reg [] [.o 47 (.ld true 1 .cp (.k 3)),
 .u 48 (.ld true 17 .cp (.k 4)) [0] 0,
 .u 49 (.bd ([.b false,.i .u64 0,.i .i64 0,.i .i64 0]) []) [0,1] 0,
 ⟨none,none,.st 1 (.t 6) (.k 47),[1,2],0⟩,
 ⟨none,none,.st 17 (.t 7) (.k 48),[2],0⟩,
 .s (.st 4 (.t 8) (.k 49)),
 .o 9 (.mv (.c (.b false)))] true [6,7,8,9] [6,7,8])
 .ret)
 .skip))
 (.seq (.seq (.reg [] [.o 50 (.fa 10 (.t 4)),
 .o 51 (.ld false 1 .cp (.k 50))] false [3,4,6,7,8,51] [3,4,6,7,8])
 (.cond 51 (.seq (.reg [] [.o 52 (.ld true 1 .cp (.k 3)),
 .u 53 (.ld true 17 .cp (.k 4)) [0] 0,
 .u 54 (.bd ([.b false,.i .u64 0,.i .i64 0,.i .i64 0]) []) [0,1] 0,
 ⟨none,none,.st 1 (.t 6) (.k 52),[1,2],0⟩,
 ⟨none,none,.st 17 (.t 7) (.k 53),[2],0⟩,
 .s (.st 4 (.t 8) (.k 54)),
 .o 9 (.mv (.c (.b true)))] true [6,7,8,9] [6,7,8])
 .ret)
 .skip))
 (.seq (.reg [] [.o 55 (.fa 5 (.t 4)),
 .s (.st 1 (.k 55) (.c (.i .i64 5)))] false [3,4,6,7,8] [3,4,6,7,8])
 (.seq (.seq (.reg [] [.o 56 (.fa 15 (.t 4)),
 .o 57 (.fa 0 (.k 56)),
 .o 58 (.ld false 1 .cp (.k 57)),
 .o 59 (.fa 8 (.t 4)),
 .o 60 (.ld false 1 .cp (.k 59)),
 .o 61 (.bin .eql (.k 58) (.k 60))] false [3,4,6,7,8,61] [3,4,6,7,8])
 (.cond 61 (.reg [] [.o 62 (.fa 5 (.t 4)),
 .s (.st 1 (.k 62) (.c (.i .i64 4)))] false [3,4,6,7,8] [3,4,6,7,8])
 .skip))
 (.seq (.reg [] [.o 63 (.ld true 1 .cp (.k 3)),
 .u 64 (.ld true 17 .cp (.k 4)) [0] 0,
 .u 65 (.bd ([.b false,.i .u64 0,.i .i64 0,.i .i64 0]) []) [0,1] 0,
 ⟨none,none,.st 1 (.t 6) (.k 63),[1,2],0⟩,
 ⟨none,none,.st 17 (.t 7) (.k 64),[2],0⟩,
 .s (.st 4 (.t 8) (.k 65)),
 .o 9 (.mv (.c (.b false)))] true [6,7,8,9] [6,7,8])
 .ret))))))))))⟩

def F_c_ref09_slot : F := ⟨2,[.inl 4],
 (.seq (.reg [.zz 0] [.o 2 (.bx (.k 0)),
 .o 4 (.mv (.c (.i .i64 0)))] false [1,2] [2])
 (.seq (.reg [] [.o 5 (.fa 8 (.t 2)),
 .o 6 (.ld false 1 .cp (.k 5)),
 .u 7 (.fa 6 (.t 2)) [0,1] 0,
 .u 8 (.ld false 1 .cp (.k 7)) [0,1] 0,
 .u 9 (.fa 7 (.t 2)) [0,1,2,3] 0,
 .u 10 (.ld false 1 .cp (.k 9)) [0,1,2,3] 0,
 .u 11 (.bin .add (.k 8) (.k 10)) [0,1] 0,
 .u 12 (.mv (.t 1)) [0,1,2,3,4,5,6] 0,
 .u 13 (.bin .rem (.k 11) (.k 12)) [0,1] 0,
 .u 14 (.mv (.t 1)) [0,1,2,3,4,5,6,7,8] 0,
 .o 15 (.call n_c_ref09_Slot [.k 6,.k 13,.k 14]),
 .o 4 (.mv (.k 15))] true [4] [])
 .ret))⟩

def F_c_ref09_again : F := ⟨2,[.inr (4,true,1),.inr (5,true,17),.inr (6,true,4),.inl 7],
 (.seq (.reg [.zz 0,.zz 1] [.o 2 (.bx (.k 0)),
 .o 3 (.bx (.k 1)),
 .o 4 (.al ([.l .o 3 []])),
 .o 5 (.al ([.i .i64 0,.i .u64 0,.i .i64 0,.i .i64 0,.i .i64 0,.i .i64 0,.i .i64 0,.i .i64 0,.i .i64 0,.i .i64 0,.b false,.i .i64 0,.i .i64 0,.i .i64 0,.l .o 2 [],.i .i64 0,.l .o 2 []])),
 .o 6 (.al ([.b false,.i .u64 0,.i .i64 0,.i .i64 0])),
 .o 7 (.mv (.c (.b false)))] false [2,3,4,5,6] [2,3,4,5,6])
 (.seq (.reg [] [.o 8 (.fa 5 (.t 3)),
 .s (.st 1 (.k 8) (.c (.i .i64 0)))] false [2,3,4,5,6] [2,3,4,5,6])
 (.seq (.reg [] [.o 9 (.ld true 1 .cp (.k 2)),
 .u 10 (.ld true 17 .cp (.k 3)) [0] 0,
 .u 11 (.bd ([.b false,.i .u64 0,.i .i64 0,.i .i64 0]) []) [0,1] 0,
 ⟨none,none,.st 1 (.t 4) (.k 9),[1,2],0⟩,
 ⟨none,none,.st 17 (.t 5) (.k 10),[2],0⟩,
 .s (.st 4 (.t 6) (.k 11)),
 .o 7 (.mv (.c (.b false)))] true [4,5,6,7] [4,5,6])
 .ret)))⟩

def F_c_ref11_more : F := ⟨2,[.inr (4,true,1),.inl 5],
 (.seq (.reg [.zz 0] [.o 2 (.bx (.k 0)),
 .o 4 (.al ([.l .o 3 []])),
 .o 5 (.mv (.c (.i .i64 0)))] false [1,2,4] [2,4])
 (.seq (.reg [] [.z 11 (.ld true 1 .cp (.t 2)) 2,
 .o 12 (.mv (.t 1)),
 .o 13 (.call n_c_ref05_Read [.k 11,.k 12]),
 .o 10 (.mv (.k 13)),
 .o 14 (.ex false 0 10),
 .o 15 (.ex false 1 10),
 .o 7 (.al ([.i .i64 0,.l .o 2 []])),
 .o 6 (.mv (.k 14)),
 .s (.st 2 (.t 7) (.k 15))] false [1,2,4,6,7] [2,4,7])
 (.seq (.reg [] [.z 17 (.ld true 1 .tk (.k 2)) 2,
 .o 18 (.mv (.k 1)),
 .o 19 (.mv (.k 6)),
 .o 20 (.fa 0 (.t 7)),
 .o 21 (.ld false 1 .cp (.k 20)),
 .o 22 (.bin .add (.k 21) (.c (.i .i64 1))),
 .z 23 (.bd ([.i .i64 0,.l .o 2 []]) [(0,1,.k 22)]) 2,
 .o 24 (.call n_c_ref05_Write [.k 17,.k 18,.k 19,.k 23]),
 .o 16 (.mv (.k 24)),
 .o 25 (.ex false 0 16),
 .o 26 (.ex false 1 16),
 .o 8 (.al ([.l .o 3 []])),
 .s (.st 1 (.t 8) (.k 25)),
 .o 9 (.mv (.k 26))] false [4,7,8] [4,7,8])
 (.seq (.reg [] [.o 27 (.ld true 1 .cp (.k 8)),
 .u 28 (.fa 0 (.k 7)) [0] 0,
 .u 29 (.ld false 1 .cp (.k 28)) [0] 0,
 ⟨none,none,.st 1 (.t 4) (.k 27),[1,2],0⟩,
 .o 5 (.mv (.k 29))] true [4,5] [4])
 .ret))))⟩

def F_c_ref10_Merge : F := ⟨2,[.inr (4,true,2)],
 (.seq (.reg [.zz 0,.zz 1] [.o 4 (.al ([.l .o 1 [],.l .o 1 []]))] false [0,1,4] [4])
 (.seq (.seq (.reg [] [.o 9 (.mv (.t 0)),
 .o 10 (.len false (.k 9)),
 .o 11 (.bin .lss (.k 10) (.c (.i .i64 2)))] false [0,1,4,11] [4])
 (.cond 11 (.seq (.reg [] [.o 12 (.mv (.t 0)),
 .o 13 (.ia 1 none (.k 12) (.c (.i .i64 0))),
 .o 14 (.ld false 1 .cp (.k 13)),
 .u 15 (.mv (.t 1)) [0,1,2] 0,
 .u 16 (.ia 1 none (.k 15) (.c (.i .i64 0))) [0,1,2] 0,
 .u 17 (.ld false 1 .cp (.k 16)) [0,1,2] 0,
 .z 18 (.bs 1 2 (.i .i64 0) [(0,.k 14),(1,.k 17)]) 1,
 .u 19 (.mv (.t 0)) [0,1,2,3,4,5,6] 0,
 .u 20 (.ia 1 none (.k 19) (.c (.i .i64 0))) [0,1,2,3,4,5,6] 0,
 .u 21 (.ld false 1 .cp (.k 20)) [0,1,2,3,4,5,6] 0,
 .u 22 (.mv (.t 1)) [0,1,2,3,4,5,6,7,8,9] 0,
 .u 23 (.ia 1 none (.k 22) (.c (.i .i64 0))) [0,1,2,3,4,5,6,7,8,9] 0,
 .u 24 (.ld false 1 .cp (.k 23)) [0,1,2,3,4,5,6,7,8,9] 0,
 .u 25 (.bs 1 2 (.i .i64 0) [(0,.k 21),(1,.k 24)]) [0,1,2,3,4,5,6] 1,
 .o 26 (.bd ([.l .o 1 [],.l .o 1 []]) [(0,1,.k 18),(1,1,.k 25)]),
 .s (.st 2 (.t 4) (.k 26))] true [4] [4])
 .ret)
 .skip))
 (.seq (.reg [] [.z 27 (.mv (.t 0)) 2,
 .z 28 (.call n_c_ref10_pick [.k 27,.c (.i .i64 0)]) 2,
 .z 29 (.mv (.t 1)) 2,
 .z 30 (.call n_c_ref10_pick [.k 29,.c (.i .i64 1)]) 2,
 .o 31 (.call n_c_ref10_Merge [.k 28,.k 30]),
 .o 5 (.al ([.l .o 1 [],.l .o 1 []])),
 .s (.st 2 (.t 5) (.k 31))] false [0,1,4,5] [4,5])
 (.seq (.reg [] [.z 32 (.mv (.k 0)) 2,
 .z 33 (.call n_c_ref10_pick [.k 32,.c (.i .i64 1)]) 2,
 .z 34 (.mv (.k 1)) 2,
 .z 35 (.call n_c_ref10_pick [.k 34,.c (.i .i64 0)]) 2,
 .o 36 (.call n_c_ref10_Merge [.k 33,.k 35]),
 .o 6 (.al ([.l .o 1 [],.l .o 1 []])),
 .s (.st 2 (.t 6) (.k 36))] false [4,5,6] [4,5,6])
 (.seq (.reg [] [.z 37 (.bs 1 0 (.i .i64 0) []) 1,
 .u 38 (.fa 0 (.t 5)) [0] 0,
 .u 39 (.ld false 1 .cp (.k 38)) [0] 0,
 .z 40 (.app 1 8 (.k 37) (.k 39)) 1,
 .u 41 (.fa 0 (.t 6)) [0,1,2,3] 0,
 .u 42 (.ld false 1 .cp (.k 41)) [0,1,2,3] 0,
 .z 43 (.app 1 8 (.k 40) (.k 42)) 1,
 .u 44 (.bs 1 0 (.i .i64 0) []) [0,1,2,3,4,5,6] 1,
 .o 45 (.bd ([.l .o 1 [],.l .o 1 []]) [(0,1,.k 43),(1,1,.k 44)]),
 .u 7 (.al ([.l .o 1 [],.l .o 1 []])) [0,1,2,3,4,5,6,7,8] 0,
 .s (.st 2 (.t 7) (.k 45))] true [4,5,6,7] [4,5,6,7])
 (.seq (.seq (.reg [] [.o 46 (.fa 1 (.t 5)),
 .o 47 (.ld false 1 .cp (.k 46)),
 .o 48 (.len false (.k 47)),
 .o 49 (.mv (.c (.i .i64 0)))] false [4,5,6,7,48,49] [4,5,6,7])
 (.blk 0 (.loop (.seq (.reg [] [.o 50 (.bin .lss (.t 49) (.t 48))] false [4,5,6,7,48,49,50] [4,5,6,7])
 (.seq (.cond 50 .skip
 (.exit 0))
 (.seq (.blk 1 (.seq (.reg [] [.o 51 (.mv (.t 49)),
 .o 8 (.mv (.k 51))] false [4,5,6,7,8,48,49] [4,5,6,7])
 (.seq (.reg [] [.o 52 (.fa 0 (.t 7)),
 .o 53 (.ld false 1 .tk (.k 52)),
 .u 54 (.fa 1 (.t 5)) [0,1] 0,
 .u 55 (.ld false 1 .cp (.k 54)) [0,1] 0,
 .u 56 (.mv (.t 8)) [0,1,2,3] 0,
 .u 57 (.ia 1 none (.k 55) (.k 56)) [0,1] 0,
 .u 58 (.ld false 1 .cp (.k 57)) [0,1] 0,
 .u 59 (.fa 1 (.t 6)) [0,1,2,3,4,5,6] 0,
 .u 60 (.ld false 1 .cp (.k 59)) [0,1,2,3,4,5,6] 0,
 .u 61 (.mv (.t 8)) [0,1,2,3,4,5,6,7,8] 0,
 .u 62 (.ia 1 none (.k 60) (.k 61)) [0,1,2,3,4,5,6] 0,
 .u 63 (.ld false 1 .cp (.k 62)) [0,1,2,3,4,5,6] 0,
 .u 64 (.bs 1 2 (.i .i64 0) [(0,.k 58),(1,.k 63)]) [0,1] 0,
 .z 65 (.app 1 8 (.k 53) (.k 64)) 1,
 .o 66 (.fa 0 (.t 7)),
 .s (.st 1 (.k 66) (.k 65))] true [4,5,6,7,8,48,49] [4,5,6,7])
 (.reg [] [.o 67 (.fa 1 (.t 7)),
 .o 68 (.ld false 1 .tk (.k 67)),
 .u 69 (.fa 1 (.t 5)) [0,1] 0,
 .u 70 (.ld false 1 .cp (.k 69)) [0,1] 0,
 .u 71 (.mv (.t 8)) [0,1,2,3] 0,
 .u 72 (.ia 1 none (.k 70) (.k 71)) [0,1] 0,
 .u 73 (.ld false 1 .cp (.k 72)) [0,1] 0,
 .u 74 (.fa 1 (.t 6)) [0,1,2,3,4,5,6] 0,
 .u 75 (.ld false 1 .cp (.k 74)) [0,1,2,3,4,5,6] 0,
 .u 76 (.mv (.t 8)) [0,1,2,3,4,5,6,7,8] 0,
 .u 77 (.ia 1 none (.k 75) (.k 76)) [0,1,2,3,4,5,6] 0,
 .u 78 (.ld false 1 .cp (.k 77)) [0,1,2,3,4,5,6] 0,
 .u 79 (.bs 1 2 (.i .i64 0) [(0,.k 73),(1,.k 78)]) [0,1] 0,
 .z 80 (.app 1 8 (.k 68) (.k 79)) 1,
 .o 81 (.fa 1 (.t 7)),
 .s (.st 1 (.k 81) (.k 80))] true [4,5,6,7,48,49] [4,5,6,7]))))
 (.reg [] [.o 82 (.bin .add (.k 49) (.c (.i .i64 1))),
 .o 49 (.mv (.k 82))] false [4,5,6,7,48,49] [4,5,6,7])))))))
 (.seq (.reg [] [.o 83 (.ld true 2 .tk (.k 7)),
 .s (.st 2 (.t 4) (.k 83))] false [4] [4])
 .ret)))))))⟩

def F_c_ref04_With : F := ⟨2,[.inl 4],
 (.seq (.reg [.zz 0] [.o 3 (.bx (.k 1)),
 .o 4 (.mv (.c (.l .o 2 [])))] false [0,3] [3])
 (.seq (.reg [] [.z 9 (.bs 2 0 (.a ([.i .u64 0,.i .i64 0])) []) 1,
 .o 5 (.mv (.k 9))] false [0,3,5] [3])
 (.seq (.reg [] [.o 6 (.mv (.c (.b false)))] false [0,3,5,6] [3])
 (.seq (.seq (.reg [] [.o 10 (.mv (.k 0)),
 .o 11 (.len false (.t 10)),
 .o 12 (.mv (.c (.i .i64 0)))] false [3,5,6,10,11,12] [3])
 (.blk 0 (.loop (.seq (.reg [] [.o 13 (.bin .lss (.t 12) (.t 11))] false [3,5,6,10,11,12,13] [3])
 (.seq (.cond 13 .skip
 (.exit 0))
 (.seq (.blk 1 (.seq (.reg [] [.o 14 (.ia 2 none (.t 10) (.t 12)),
 .o 15 (.ld true 2 .cp (.k 14)),
 .o 8 (.al ([.i .u64 0,.i .i64 0])),
 .s (.st 2 (.t 8) (.k 15))] false [3,5,6,8,10,11,12] [3,8])
 (.seq (.seq (.reg [] [.o 16 (.mv (.t 6)),
 .o 17 (.un .not (.k 16)),
 .o 18 (.mv (.k 17)),
 .c 18 true 19 (.ld true 2 .cp (.t 3)),
 .c 18 true 20 (.ld true 2 .cp (.t 8)),
 .c 18 true 21 (.call n_c_ref04_Cmp [.k 19,.k 20]),
 .c 18 true 22 (.bin .lss (.k 21) (.c (.i .i64 0))),
 .o 23 (.pick (.k 18) (.k 22) (.c (.b false)))] false [3,5,6,8,10,11,12,23] [3,8])
 (.cond 23 (.seq (.reg [] [.o 24 (.mv (.k 5)),
 .o 25 (.ld true 2 .cp (.t 3)),
 .o 26 (.bs 2 1 (.a ([.i .u64 0,.i .i64 0])) [(0,.k 25)]),
 .z 27 (.app 2 16 (.k 24) (.k 26)) 1,
 .o 5 (.mv (.k 27))] false [3,5,8,10,11,12] [3,8])
 (.reg [] [.o 6 (.mv (.c (.b true)))] false [3,5,6,8,10,11,12] [3,8]))
 .skip))
 (.reg [] [.o 28 (.mv (.k 5)),
 .o 29 (.ld true 2 .cp (.k 8)),
 .o 30 (.bs 2 1 (.a ([.i .u64 0,.i .i64 0])) [(0,.k 29)]),
 .z 31 (.app 2 16 (.k 28) (.k 30)) 1,
 .o 5 (.mv (.k 31))] false [3,5,6,10,11,12] [3]))))
 (.reg [] [.o 32 (.bin .add (.k 12) (.c (.i .i64 1))),
 .o 12 (.mv (.k 32))] false [3,5,6,10,11,12] [3])))))))
 (.seq (.seq (.reg [] [.o 33 (.mv (.k 6)),
 .o 34 (.un .not (.k 33))] false [3,5,34] [3])
 (.cond 34 (.reg [] [.o 35 (.mv (.k 5)),
 .o 36 (.ld true 2 .cp (.k 3)),
 .o 37 (.bs 2 1 (.a ([.i .u64 0,.i .i64 0])) [(0,.k 36)]),
 .z 38 (.app 2 16 (.k 35) (.k 37)) 1,
 .o 5 (.mv (.k 38))] false [5] [])
 .skip))
 (.seq (.reg [] [.o 39 (.mv (.k 5)),
 .o 4 (.mv (.k 39))] false [4] [])
 .ret))))))⟩

def F_c_ref03_Cmp : F := ⟨2,[.inl 4],
 (.seq (.reg [] [.o 4 (.mv (.c (.i .i64 0)))] false [0,1] [])
 (.seq (.seq (.reg [] [.o 5 (.mv (.t 0)),
 .o 6 (.call n_c_ref03_Key [.k 5]),
 .o 7 (.mv (.t 1)),
 .o 8 (.call n_c_ref03_Key [.k 7]),
 .o 9 (.bin .lss (.k 6) (.k 8))] false [0,1,9] [])
 (.cond 9 (.seq (.reg [] [.o 4 (.mv (.c (.i .i64 (-1))))] false [4] [])
 .ret)
 .skip))
 (.seq (.seq (.reg [] [.o 10 (.mv (.k 0)),
 .o 11 (.call n_c_ref03_Key [.k 10]),
 .o 12 (.mv (.k 1)),
 .o 13 (.call n_c_ref03_Key [.k 12]),
 .o 14 (.bin .gtr (.k 11) (.k 13))] false [14] [])
 (.cond 14 (.seq (.reg [] [.o 4 (.mv (.c (.i .i64 1)))] false [4] [])
 .ret)
 .skip))
 (.seq (.reg [] [.o 4 (.mv (.c (.i .i64 0)))] false [4] [])
 .ret))))⟩

def F_c_ref09_Slot : F := ⟨3,[.inl 6],
 (.seq (.reg [] [.o 6 (.mv (.c (.i .i64 0)))] false [0,1,2] [])
 (.seq (.reg [] [.o 7 (.mv (.k 0)),
 .o 8 (.mv (.k 2)),
 .o 9 (.bin .mul (.k 7) (.k 8)),
 .o 10 (.bin .add (.c (.i .i64 2)) (.k 9)),
 .o 11 (.mv (.k 1)),
 .o 12 (.bin .add (.k 10) (.k 11)),
 .o 6 (.mv (.k 12))] false [6] [])
 .ret))⟩

def F_c_ref10_pick : F := ⟨2,[.inl 4],
 (.seq (.reg [.zz 0] [.o 4 (.mv (.c (.l .o 1 [])))] false [0,1] [])
 (.seq (.reg [] [.z 7 (.bs 1 0 (.i .i64 0) []) 1,
 .o 5 (.mv (.k 7))] false [0,1,5] [])
 (.seq (.seq (.reg [] [.o 8 (.mv (.t 0)),
 .o 9 (.len false (.k 8)),
 .o 10 (.mv (.c (.i .i64 0)))] false [0,1,5,9,10] [])
 (.blk 0 (.loop (.seq (.reg [] [.o 11 (.bin .lss (.t 10) (.t 9))] false [0,1,5,9,10,11] [])
 (.seq (.cond 11 .skip
 (.exit 0))
 (.seq (.blk 1 (.seq (.reg [] [.o 12 (.mv (.t 10)),
 .o 6 (.mv (.k 12))] false [0,1,5,6,9,10] [])
 (.seq (.reg [] [.o 13 (.mv (.t 6)),
 .o 14 (.bin .rem (.k 13) (.c (.i .i64 2))),
 .o 15 (.mv (.t 1)),
 .o 16 (.bin .eql (.k 14) (.k 15))] false [0,1,5,6,9,10,16] [])
 (.cond 16 (.reg [] [.o 17 (.mv (.k 5)),
 .o 18 (.mv (.t 0)),
 .o 19 (.mv (.k 6)),
 .o 20 (.ia 1 none (.k 18) (.k 19)),
 .o 21 (.ld false 1 .cp (.k 20)),
 .o 22 (.bs 1 1 (.i .i64 0) [(0,.k 21)]),
 .z 23 (.app 1 8 (.k 17) (.k 22)) 1,
 .o 5 (.mv (.k 23))] false [0,1,5,9,10] [])
 .skip))))
 (.reg [] [.o 24 (.bin .add (.k 10) (.c (.i .i64 1))),
 .o 10 (.mv (.k 24))] false [0,1,5,9,10] [])))))))
 (.seq (.reg [] [.o 25 (.mv (.k 5)),
 .o 4 (.mv (.k 25))] false [4] [])
 .ret))))⟩

def F_c_ref03_Key : F := ⟨1,[.inl 2],
 (.seq (.reg [] [.o 2 (.mv (.c (.i .u64 0)))] false [0] [])
 (.seq (.reg [] [.o 3 (.mv (.k 0)),
 .o 4 (.call n_c_ref03_Bits [.k 3]),
 .o 0 (.mv (.k 4))] false [0] [])
 (.seq (.seq (.reg [] [.o 5 (.mv (.t 0)),
 .o 6 (.bin .geq (.k 5) (.c (.i .u64 9223372036854775808)))] false [0,6] [])
 (.cond 6 (.seq (.reg [] [.o 7 (.mv (.k 0)),
 .o 8 (.bin .sub (.c (.i .u64 18446744073709551615)) (.k 7)),
 .o 2 (.mv (.k 8))] false [2] [])
 .ret)
 .skip))
 (.seq (.reg [] [.o 9 (.mv (.k 0)),
 .o 10 (.bin .add (.k 9) (.c (.i .u64 9223372036854775808))),
 .o 2 (.mv (.k 10))] false [2] [])
 .ret))))⟩

def F_net_Net_Step : F := ⟨3,[.inr (6,true,4),.inl 7],
 (.seq (.reg [.zz 0] [.o 3 (.bx (.k 0)),
 .o 6 (.al ([.b false,.f .f64 0,.i .i64 0,.i .i64 0])),
 .o 7 (.mv (.c (.b false)))] false [1,2,3,6] [3,6])
 (.seq (.seq (.reg [] [.o 12 (.mv (.t 2)),
 .o 13 (.nc (.k 12)),
 .o 14 (.fa 5 (.k 13)),
 .o 15 (.ld false 1 .cp (.k 14)),
 .o 16 (.bin .eql (.k 15) (.c (.i .i64 0)))] false [1,2,3,6,16] [3,6])
 (.cond 16 (.reg [] [.o 17 (.mv (.t 2)),
 .u 18 (.mv (.t 2)) [0] 0,
 .u 19 (.mv (.t 2)) [0,1] 0,
 .u 20 (.nc (.k 19)) [0,1] 0,
 .u 21 (.fa 0 (.k 20)) [0,1] 0,
 .u 22 (.fa 3 (.k 21)) [0,1] 0,
 .u 23 (.ia 1 (some 2) (.k 22) (.c (.i .i64 0))) [0,1] 0,
 .u 24 (.ld false 1 .cp (.k 23)) [0,1] 0,
 .u 25 (.fa 0 (.t 3)) [0,1,2,3,4,5,6,7] 0,
 .u 26 (.fa 0 (.k 25)) [0,1,2,3,4,5,6,7] 0,
 .u 27 (.ld false 1 .cp (.k 26)) [0,1,2,3,4,5,6,7] 0,
 .u 28 (.call n_op_Into [.k 24,.k 27]) [0,1] 0,
 .u 29 (.nc (.k 17)) [1] 0,
 .u 30 (.fa 5 (.k 29)) [1] 0,
 ⟨none,none,.st 1 (.k 30) (.c (.i .i64 1)),[1],0⟩,
 .o 31 (.nc (.k 18)),
 .o 32 (.fa 6 (.k 31)),
 .s (.st 1 (.k 32) (.k 28))] true [1,2,3,6] [3,6])
 .skip))
 (.seq (.seq (.reg [] [.z 34 (.ld true 3 .cp (.t 3)) 2,
 .u 35 (.mv (.t 2)) [0] 0,
 .u 36 (.nc (.k 35)) [0] 0,
 .u 37 (.fa 7 (.k 36)) [0] 0,
 .u 38 (.ld false 1 .cp (.k 37)) [0] 0,
 .u 39 (.mv (.t 2)) [0,1,2,3,4] 0,
 .u 40 (.nc (.k 39)) [0,1,2,3,4] 0,
 .u 41 (.fa 6 (.k 40)) [0,1,2,3,4] 0,
 .u 42 (.ld false 1 .cp (.k 41)) [0,1,2,3,4] 0,
 .o 43 (.call n_net_Net_gate [.k 34,.k 38,.k 42]),
 .o 33 (.mv (.k 43)),
 .o 44 (.ex false 0 33),
 .u 45 (.ex false 1 33) [11] 0,
 .u 8 (.mv (.k 44)) [12] 0,
 .o 9 (.mv (.k 45))] true [1,2,3,6,8,9] [3,6])
 (.seq (.reg [] [.o 46 (.mv (.k 9))] false [1,2,3,6,8,46] [3,6])
 (.cond 46 (.seq (.reg [] [.o 47 (.fa 0 (.k 3)),
 .o 48 (.fa 1 (.k 47)),
 .o 49 (.ld false 1 .tk (.k 48)),
 .o 50 (.mv (.t 8)),
 .o 51 (.ia 2 none (.k 49) (.k 50)),
 .o 52 (.ld true 2 .cp (.k 51)),
 .o 10 (.al ([.i .i64 0,.i .i64 0])),
 .s (.st 2 (.t 10) (.k 52))] false [1,2,6,8,10] [6,10])
 (.seq (.reg [] [.o 53 (.mv (.t 2)),
 .u 54 (.mv (.t 2)) [0] 0,
 .u 55 (.mv (.t 8)) [0,1] 0,
 .u 56 (.bin .add (.k 55) (.c (.i .i64 1))) [0,1] 0,
 .u 57 (.fa 0 (.t 10)) [0,1,2,3] 0,
 .u 58 (.ld false 1 .cp (.k 57)) [0,1,2,3] 0,
 .u 59 (.nc (.k 53)) [1,4,5] 0,
 .u 60 (.fa 7 (.k 59)) [1,4,5] 0,
 ⟨none,none,.st 1 (.k 60) (.k 56),[1,4,5],0⟩,
 .o 61 (.nc (.k 54)),
 .o 62 (.fa 6 (.k 61)),
 .s (.st 1 (.k 62) (.k 58))] true [1,2,6,8,10] [6,10])
 (.seq (.seq (.reg [] [.o 63 (.mv (.k 1)),
 .o 64 (.mv (.k 8)),
 .o 65 (.call n_net_bump [.k 63,.k 64]),
 .o 66 (.bin .rem (.k 65) (.c (.i .i64 2))),
 .o 67 (.bin .eql (.k 66) (.c (.i .i64 1)))] false [2,6,10,67] [6,10])
 (.cond 67 (.reg [] [.o 68 (.mv (.k 2)),
 .o 69 (.fa 1 (.k 10)),
 .o 70 (.ld false 1 .cp (.k 69)),
 .o 71 (.nc (.k 68)),
 .o 72 (.fa 6 (.k 71)),
 .s (.st 1 (.k 72) (.k 70))] false [6] [6])
 .skip))
 (.seq (.reg [] [.o 73 (.bd ([.b false,.f .f64 0,.i .i64 0,.i .i64 0]) []),
 .s (.st 4 (.t 6) (.k 73)),
 .o 7 (.mv (.c (.b false)))] false [6,7] [6])
 .ret))))
 .skip)))
 (.seq (.reg [] [.z 74 (.ld true 3 .cp (.t 3)) 2,
 .u 75 (.mv (.k 2)) [0] 0,
 .u 76 (.nc (.k 75)) [0] 0,
 .u 77 (.fa 6 (.k 76)) [0] 0,
 .u 78 (.ld false 1 .cp (.k 77)) [0] 0,
 .o 79 (.call n_net_Net_place [.k 74,.k 78]),
 .o 11 (.mv (.k 79))] true [1,3,6,11] [3,6])
 (.seq (.reg [] [.o 80 (.mv (.t 11)),
 .u 81 (.fa 0 (.t 3)) [0] 0,
 .u 82 (.fa 0 (.k 81)) [0] 0,
 .u 83 (.ld false 1 .cp (.k 82)) [0] 0,
 .u 84 (.mv (.k 1)) [0,1,2,3] 0,
 .u 85 (.ld true 3 .cp (.t 3)) [0,1,2,3,4] 2,
 .u 86 (.mv (.t 11)) [0,1,2,3,4,5] 0,
 .u 87 (.call n_net_Net_Out [.k 85,.k 86]) [0,1,2,3,4] 0,
 .u 88 (.call n_net_bump [.k 84,.k 87]) [0,1,2,3] 0,
 .u 89 (.bin .mul (.k 83) (.k 88)) [0] 0,
 .o 90 (.bin .add (.k 80) (.k 89)),
 .o 91 (.bd ([.b false,.f .f64 0,.i .i64 0,.i .i64 0]) [(0,1,.c (.b true)),(3,1,.k 90)]),
 .s (.st 4 (.t 6) (.k 91)),
 .o 7 (.mv (.c (.b true)))] true [6,7] [6])
 .ret)))))⟩

def F_net_Net_gate : F := ⟨3,[.inl 6,.inl 7],
 (.seq (.reg [.zz 0] [.o 3 (.bx (.k 0)),
 .o 6 (.mv (.c (.i .i64 0))),
 .o 7 (.mv (.c (.b false)))] false [1,2,3] [3])
 (.seq (.seq (.reg [] [.o 10 (.mv (.k 1)),
 .o 8 (.mv (.k 10))] false [2,3,8] [3])
 (.blk 0 (.loop (.seq (.seq (.reg [] [.o 11 (.mv (.t 8)),
 .o 12 (.fa 0 (.t 3)),
 .o 13 (.fa 1 (.k 12)),
 .o 14 (.ld false 1 .cp (.k 13)),
 .o 15 (.len false (.k 14)),
 .o 16 (.bin .lss (.k 11) (.k 15))] false [2,3,8,16] [3])
 (.cond 16 .skip
 (.exit 0)))
 (.seq (.blk 1 (.seq (.reg [] [.o 19 (.fa 0 (.t 3)),
 .o 20 (.fa 1 (.k 19)),
 .o 21 (.ld false 1 .cp (.k 20)),
 .o 22 (.mv (.t 8)),
 .o 23 (.ia 2 none (.k 21) (.k 22)),
 .o 24 (.ld true 2 .cp (.k 23)),
 .o 9 (.al ([.i .i64 0,.i .i64 0])),
 .s (.st 2 (.t 9) (.k 24))] false [2,3,8,9] [3,9])
 (.seq (.reg [] [.o 25 (.fa 0 (.t 9)),
 .o 26 (.ld false 1 .cp (.k 25)),
 .o 27 (.mv (.t 2)),
 .o 28 (.bin .eql (.k 26) (.k 27)),
 .o 29 (.mv (.k 28)),
 .c 29 false 30 (.fa 1 (.k 9)),
 .c 29 false 31 (.ld false 1 .cp (.k 30)),
 .c 29 false 32 (.mv (.t 2)),
 .c 29 false 33 (.bin .eql (.k 31) (.k 32)),
 .o 34 (.pick (.k 29) (.c (.b true)) (.k 33))] false [2,3,8,34] [3])
 (.cond 34 (.seq (.reg [] [.o 35 (.mv (.k 8)),
 .o 6 (.mv (.k 35)),
 .o 7 (.mv (.c (.b true)))] false [6,7] [])
 .ret)
 .skip))))
 (.reg [] [.o 17 (.mv (.k 8)),
 .o 18 (.bin .add (.k 17) (.c (.i .i64 1))),
 .o 8 (.mv (.k 18))] false [2,3,8] [3]))))))
 (.seq (.reg [] [.o 6 (.mv (.c (.i .i64 0))),
 .o 7 (.mv (.c (.b false)))] false [6,7] [])
 .ret)))⟩

def F_net_bump : F := ⟨2,[.inl 4],
 (.seq (.reg [] [.o 4 (.mv (.c (.i .i64 0)))] false [0,1] [])
 (.seq (.reg [] [.o 6 (.mv (.t 0)),
 .o 7 (.mv (.t 1)),
 .o 8 (.call n_cell_Memory_Read [.k 6,.k 7]),
 .o 5 (.al ([.i .u64 0,.i .i64 0,.l .o 2 []])),
 .s (.st 3 (.t 5) (.k 8))] false [0,1,5] [5])
 (.seq (.reg [] [.o 9 (.mv (.k 0)),
 .o 10 (.mv (.k 1)),
 .o 11 (.fa 0 (.t 5)),
 .o 12 (.ld false 1 .cp (.k 11)),
 .o 13 (.fa 1 (.t 5)),
 .o 14 (.fa 0 (.k 13)),
 .o 15 (.ld false 1 .cp (.k 14)),
 .o 16 (.bin .add (.k 15) (.c (.i .i64 1))),
 .z 17 (.bd ([.i .i64 0,.l .o 2 []]) [(0,1,.k 16)]) 2,
 .o 18 (.call n_cell_Memory_Write [.k 9,.k 10,.k 12,.k 17])] false [5] [5])
 (.seq (.reg [] [.o 19 (.fa 1 (.k 5)),
 .o 20 (.fa 0 (.k 19)),
 .o 21 (.ld false 1 .cp (.k 20)),
 .o 4 (.mv (.k 21))] false [4] [])
 .ret))))⟩

def F_net_Net_place : F := ⟨2,[.inl 4],
 (.seq (.reg [.zz 0] [.o 2 (.bx (.k 0)),
 .o 4 (.mv (.c (.i .i64 0)))] false [1,2] [2])
 (.seq (.seq (.reg [] [.o 7 (.fa 0 (.k 2)),
 .o 8 (.fa 2 (.k 7)),
 .o 9 (.ld false 1 .tk (.k 8)),
 .o 10 (.len false (.t 9)),
 .o 11 (.mv (.c (.i .i64 0)))] false [1,9,10,11] [])
 (.blk 0 (.loop (.seq (.reg [] [.o 12 (.bin .lss (.t 11) (.t 10))] false [1,9,10,11,12] [])
 (.seq (.cond 12 .skip
 (.exit 0))
 (.seq (.blk 1 (.seq (.reg [] [.o 13 (.mv (.t 11)),
 .o 14 (.ia 1 none (.t 9) (.t 11)),
 .o 15 (.ld false 1 .cp (.k 14)),
 .o 5 (.mv (.k 13)),
 .o 6 (.mv (.k 15))] false [1,5,6,9,10,11] [])
 (.seq (.reg [] [.o 16 (.mv (.k 6)),
 .o 17 (.mv (.t 1)),
 .o 18 (.bin .eql (.k 16) (.k 17))] false [1,5,9,10,11,18] [])
 (.cond 18 (.seq (.reg [] [.o 19 (.mv (.k 5)),
 .o 4 (.mv (.k 19))] false [4] [])
 .ret)
 .skip))))
 (.reg [] [.o 20 (.bin .add (.k 11) (.c (.i .i64 1))),
 .o 11 (.mv (.k 20))] false [1,9,10,11] [])))))))
 (.seq (.reg [] [.o 4 (.mv (.c (.i .i64 0)))] false [4] [])
 .ret)))⟩

def F_pile_items_Len : F := ⟨1,[.inl 2],
 (.seq (.reg [.zz 0] [.o 2 (.mv (.c (.i .i64 0)))] false [0] [])
 (.seq (.reg [] [.o 3 (.mv (.k 0)),
 .o 4 (.len false (.k 3)),
 .o 2 (.mv (.k 4))] false [2] [])
 .ret))⟩

def F_pile_items_Less : F := ⟨3,[.inl 6],
 (.seq (.reg [.zz 0] [.o 6 (.mv (.c (.b false)))] false [0,1,2] [])
 (.seq (.reg [] [.o 7 (.mv (.t 0)),
 .u 8 (.mv (.k 1)) [0] 0,
 .o 9 (.ia 2 none (.k 7) (.k 8)),
 .o 10 (.ld true 2 .cp (.k 9)),
 .u 11 (.mv (.t 0)) [0,1,2,3] 0,
 .u 12 (.mv (.k 2)) [0,1,2,3,4] 0,
 .u 13 (.ia 2 none (.k 11) (.k 12)) [0,1,2,3] 0,
 .u 14 (.ld true 2 .cp (.k 13)) [0,1,2,3] 0,
 .o 15 (.call n_pile_Item_Cmp [.k 10,.k 14]),
 .o 16 (.bin .lss (.k 15) (.c (.i .i64 0))),
 .o 6 (.mv (.k 16))] true [6] [])
 .ret))⟩

def F_pile_items_Swap : F := ⟨3,[],
 (.reg [.thaw 0] [.o 6 (.mv (.t 0)),
 .u 7 (.mv (.t 1)) [0] 0,
 .u 8 (.mv (.t 0)) [0,1] 0,
 .u 9 (.mv (.t 2)) [0,1,2] 0,
 .u 10 (.mv (.t 0)) [0,1,2,3] 0,
 .u 11 (.mv (.t 2)) [0,1,2,3,4] 0,
 .u 12 (.ia 2 none (.k 10) (.k 11)) [0,1,2,3] 0,
 .u 13 (.ld true 2 .cp (.k 12)) [0,1,2,3] 0,
 .u 14 (.mv (.t 0)) [0,1,2,3,4,5,6,7] 0,
 .u 15 (.mv (.t 1)) [0,1,2,3,4,5,6,7,8] 0,
 .u 16 (.ia 2 none (.k 14) (.k 15)) [0,1,2,3,4,5,6,7] 0,
 .u 17 (.ld true 2 .cp (.k 16)) [0,1,2,3,4,5,6,7] 0,
 .u 18 (.ia 2 none (.k 6) (.k 7)) [2,3] 0,
 ⟨none,none,.st 2 (.k 18) (.k 13),[2,3],0⟩,
 .o 19 (.ia 2 none (.k 8) (.k 9)),
 .s (.st 2 (.k 19) (.k 17))] true [] [])⟩

def F_pile_items_Pop : F := ⟨1,[.inl 2],
 (.seq (.reg [] [.o 2 (.mv (.c (.nili)))] false [0] [])
 (.seq (.reg [] [.o 5 (.mv (.t 0)),
 .o 6 (.nc (.k 5)),
 .z 7 (.lda 1 (.k 6)) 1,
 .o 8 (.len false (.k 7)),
 .o 9 (.bin .sub (.k 8) (.c (.i .i64 1))),
 .o 3 (.mv (.k 9))] false [0,3] [])
 (.seq (.reg [] [.o 10 (.mv (.t 0)),
 .o 11 (.nc (.k 10)),
 .z 12 (.lda 1 (.k 11)) 1,
 .o 13 (.mv (.t 3)),
 .o 14 (.ia 2 none (.k 12) (.k 13)),
 .o 15 (.ld true 2 .cp (.k 14)),
 .o 4 (.al ([.f .f64 0,.i .i64 0])),
 .s (.st 2 (.t 4) (.k 15))] false [0,3,4] [4])
 (.seq (.reg [] [.o 16 (.mv (.t 0)),
 .o 17 (.mv (.k 0)),
 .o 18 (.nc (.k 17)),
 .o 19 (.ld false 1 .tk (.k 18)),
 .o 20 (.mv (.k 3)),
 .o 21 (.sl 2 (.k 19) none (some (.k 20)) none),
 .o 22 (.nc (.k 16)),
 .s (.st 1 (.k 22) (.k 21))] false [4] [4])
 (.seq (.reg [] [.o 23 (.ld true 2 .cp (.k 4)),
 .o 24 (.mi t_pile_Item (.k 23)),
 .o 2 (.mv (.k 24))] false [2] [])
 .ret)))))⟩

def F_multi_Multi_Step : F := ⟨3,[.inr (6,true,4),.inl 7],
 (.seq (.reg [] [.o 3 (.bx (.k 0)),
 .o 6 (.al ([.b false,.f .f64 0,.i .i64 0,.i .i64 0])),
 .o 7 (.mv (.c (.b false)))] false [1,2,3,6] [3,6])
 (.seq (.seq (.reg [] [.o 8 (.mv (.t 2)),
 .o 9 (.nc (.k 8)),
 .o 10 (.fa 0 (.k 9)),
 .o 11 (.fa 0 (.k 10)),
 .o 12 (.ld false 1 .cp (.k 11)),
 .o 13 (.bin .eql (.k 12) (.c (.i .i64 1)))] false [1,2,3,6,13] [3,6])
 (.cond 13 (.seq (.reg [] [.o 14 (.ld true 1 .cp (.k 3)),
 .o 15 (.mv (.k 1)),
 .o 16 (.mv (.k 2)),
 .o 17 (.call n_multi_Multi_insert [.k 14,.k 15,.k 16]),
 .o 18 (.ex false 0 17),
 .o 19 (.ex false 1 17),
 .s (.st 4 (.t 6) (.k 18)),
 .o 7 (.mv (.k 19))] false [6,7] [6])
 .ret)
 .skip))
 (.seq (.reg [] [.o 20 (.ld true 1 .cp (.k 3)),
 .o 21 (.mv (.k 1)),
 .o 22 (.mv (.k 2)),
 .o 23 (.call n_multi_Multi_delete [.k 20,.k 21,.k 22]),
 .o 24 (.ex false 0 23),
 .o 25 (.ex false 1 23),
 .s (.st 4 (.t 6) (.k 24)),
 .o 7 (.mv (.k 25))] false [6,7] [6])
 .ret)))⟩

def F_multi_Multi_insert : F := ⟨3,[.inr (6,true,4),.inl 7],
 (.seq (.reg [] [.o 3 (.bx (.k 0)),
 .o 6 (.al ([.b false,.f .f64 0,.i .i64 0,.i .i64 0])),
 .o 7 (.mv (.c (.b false)))] false [1,2,3,6] [3,6])
 (.seq (.reg [] [.o 11 (.mv (.t 2)),
 .o 12 (.nc (.k 11)),
 .o 13 (.fa 0 (.k 12)),
 .o 14 (.fa 3 (.k 13)),
 .o 15 (.ia 1 (some 2) (.k 14) (.c (.i .i64 0))),
 .o 16 (.ld false 1 .cp (.k 15)),
 .u 17 (.fa 0 (.k 3)) [0,1,2,3,4,5] 0,
 .u 18 (.ld false 1 .cp (.k 17)) [0,1,2,3,4,5] 0,
 .o 19 (.call n_op_Into [.k 16,.k 18]),
 .o 8 (.mv (.k 19))] true [1,2,6,8] [6])
 (.seq (.reg [] [.o 20 (.mv (.t 2)),
 .o 21 (.nc (.k 20)),
 .o 22 (.fa 11 (.k 21)),
 .o 23 (.ia 3 (some 2) (.k 22) (.c (.i .i64 0))),
 .o 9 (.mv (.k 23))] false [1,2,6,8,9] [6])
 (.seq (.seq (.reg [] [.o 24 (.mv (.t 2)),
 .o 25 (.nc (.k 24)),
 .o 26 (.fa 5 (.k 25)),
 .o 27 (.ld false 1 .cp (.k 26)),
 .o 28 (.bin .eql (.k 27) (.c (.i .i64 0)))] false [1,2,6,8,9,28] [6])
 (.cond 28 (.seq (.reg [] [.o 29 (.mv (.t 9)),
 .o 30 (.mv (.k 1)),
 .o 31 (.mv (.k 8)),
 .o 32 (.call n_cell_Memory_Read [.k 30,.k 31]),
 .o 33 (.nc (.k 29)),
 .s (.st 3 (.k 33) (.k 32))] false [2,6,9] [6])
 (.seq (.reg [] [.o 34 (.mv (.k 2)),
 .o 35 (.nc (.k 34)),
 .o 36 (.fa 5 (.k 35)),
 .s (.st 1 (.k 36) (.c (.i .i64 1)))] false [6,9] [6])
 (.seq (.reg [] [.o 37 (.bd ([.b false,.f .f64 0,.i .i64 0,.i .i64 0]) []),
 .u 38 (.mv (.k 9)) [0] 0,
 .u 39 (.nc (.k 38)) [0] 0,
 .u 40 (.fa 1 (.k 39)) [0] 0,
 .u 41 (.fa 1 (.k 40)) [0] 0,
 .u 42 (.ld false 1 .cp (.k 41)) [0] 0,
 .u 43 (.len false (.k 42)) [0] 0,
 .u 44 (.bin .geq (.k 43) (.c (.i .i64 62))) [0] 0,
 ⟨none,none,.st 4 (.t 6) (.k 37),[1,2,3,4,5,6,7],0⟩,
 .o 7 (.mv (.k 44))] true [6,7] [6])
 .ret)))
 .skip))
 (.seq (.reg [] [.o 45 (.mv (.t 9)),
 .o 46 (.nc (.k 45)),
 .o 47 (.fa 1 (.k 46)),
 .o 48 (.fa 1 (.k 47)),
 .z 49 (.ld false 1 .cp (.k 48)) 2,
 .o 50 (.call n_pile_New [.k 49]),
 .o 10 (.mv (.k 50))] false [1,2,6,8,9,10] [6])
 (.seq (.reg [] [.o 51 (.mv (.t 10)),
 .o 52 (.mv (.t 2)),
 .o 53 (.nc (.k 52)),
 .o 54 (.fa 0 (.k 53)),
 .o 55 (.fa 1 (.k 54)),
 .o 56 (.ld true 2 .cp (.k 55)),
 .o 57 (.call n_pile_Pile_Put [.k 51,.k 56])] false [1,2,6,8,9,10] [6])
 (.seq (.seq (.reg [] [.o 58 (.mv (.k 1)),
 .u 59 (.mv (.k 8)) [0] 0,
 .u 60 (.mv (.k 9)) [0,1] 0,
 .u 61 (.nc (.k 60)) [0,1] 0,
 .u 62 (.fa 0 (.k 61)) [0,1] 0,
 .u 63 (.ld false 1 .cp (.k 62)) [0,1] 0,
 .u 64 (.mv (.k 10)) [0,1,2,3,4,5] 0,
 .u 65 (.call n_pile_Pile_All [.k 64]) [0,1,2,3,4,5] 0,
 .u 66 (.bd ([.i .i64 0,.l .o 2 []]) [(1,1,.k 65)]) [0,1,2,3,4,5] 2,
 .o 67 (.call n_cell_Memory_Write [.k 58,.k 59,.k 63,.k 66])] true [2,6,67] [6])
 (.cond 67 (.seq (.reg [] [.o 68 (.mv (.k 2)),
 .o 69 (.nc (.k 68)),
 .o 70 (.fa 0 (.k 69)),
 .o 71 (.fa 1 (.k 70)),
 .o 72 (.ld true 2 .cp (.k 71)),
 .o 73 (.call n_pile_Item_Canon [.k 72]),
 .o 74 (.bd ([.b false,.f .f64 0,.i .i64 0,.i .i64 0]) [(0,1,.c (.b true)),(1,2,.k 73)]),
 .s (.st 4 (.t 6) (.k 74)),
 .o 7 (.mv (.c (.b true)))] false [6,7] [6])
 .ret)
 .skip))
 (.seq (.reg [] [.o 75 (.mv (.k 2)),
 .o 76 (.nc (.k 75)),
 .o 77 (.fa 5 (.k 76)),
 .s (.st 1 (.k 77) (.c (.i .i64 0)))] false [6] [6])
 (.seq (.reg [] [.o 78 (.bd ([.b false,.f .f64 0,.i .i64 0,.i .i64 0]) []),
 .s (.st 4 (.t 6) (.k 78)),
 .o 7 (.mv (.c (.b false)))] false [6,7] [6])
 .ret)))))))))⟩

def F_multi_Multi_delete : F := ⟨3,[.inr (6,true,4),.inl 7],
 (.seq (.reg [] [.o 3 (.bx (.k 0)),
 .o 6 (.al ([.b false,.f .f64 0,.i .i64 0,.i .i64 0])),
 .o 7 (.mv (.c (.b false)))] false [1,2,3,6] [3,6])
 (.seq (.seq (.reg [] [.o 14 (.mv (.t 2)),
 .o 15 (.nc (.k 14)),
 .o 16 (.fa 5 (.k 15)),
 .o 17 (.ld false 1 .cp (.k 16)),
 .o 18 (.bin .lss (.k 17) (.c (.i .i64 2)))] false [1,2,3,6,18] [3,6])
 (.cond 18 (.seq (.reg [] [.o 19 (.mv (.t 2)),
 .u 20 (.mv (.t 2)) [0] 0,
 .u 21 (.nc (.k 20)) [0] 0,
 .u 22 (.fa 5 (.k 21)) [0] 0,
 .u 23 (.ld false 1 .cp (.k 22)) [0] 0,
 .u 24 (.mv (.k 1)) [0,1,2,3,4] 0,
 .u 25 (.mv (.t 2)) [0,1,2,3,4,5] 0,
 .u 26 (.mv (.t 2)) [0,1,2,3,4,5,6] 0,
 .u 27 (.nc (.k 26)) [0,1,2,3,4,5,6] 0,
 .u 28 (.fa 5 (.k 27)) [0,1,2,3,4,5,6] 0,
 .u 29 (.ld false 1 .cp (.k 28)) [0,1,2,3,4,5,6] 0,
 .u 30 (.nc (.k 25)) [0,1,2,3,4,5,7,8,9,10] 0,
 .u 31 (.fa 0 (.k 30)) [0,1,2,3,4,5,7,8,9,10] 0,
 .u 32 (.fa 3 (.k 31)) [0,1,2,3,4,5,7,8,9,10] 0,
 .u 33 (.ia 1 (some 2) (.k 32) (.k 29)) [0,1,2,3,4,5] 0,
 .u 34 (.ld false 1 .cp (.k 33)) [0,1,2,3,4,5] 0,
 .u 35 (.fa 0 (.k 3)) [0,1,2,3,4,5,6,7,8,9,10,11,12,13,14,15] 0,
 .u 36 (.ld false 1 .cp (.k 35)) [0,1,2,3,4,5,6,7,8,9,10,11,12,13,14,15] 0,
 .u 37 (.call n_op_Into [.k 34,.k 36]) [0,1,2,3,4,5] 0,
 .u 38 (.call n_cell_Memory_Read [.k 24,.k 37]) [0,1,2,3,4] 0,
 .u 39 (.nc (.k 19)) [1,2,3,4,5,6,7,8,9,10,11,12,13,14,15,16,17,18,19] 0,
 .u 40 (.fa 11 (.k 39)) [1,2,3,4,5,6,7,8,9,10,11,12,13,14,15,16,17,18,19] 0,
 .o 41 (.ia 3 (some 2) (.k 40) (.k 23)),
 .s (.st 3 (.k 41) (.k 38))] true [2,6] [6])
 (.seq (.reg [] [.o 42 (.mv (.t 2)),
 .o 43 (.nc (.t 42)),
 .o 44 (.fa 5 (.k 43)),
 .o 45 (.ld false 1 .cp (.k 44)),
 .o 46 (.bin .add (.k 45) (.c (.i .i64 1))),
 .o 47 (.nc (.k 42)),
 .o 48 (.fa 5 (.k 47)),
 .s (.st 1 (.k 48) (.k 46))] false [2,6] [6])
 (.seq (.seq (.reg [] [.o 49 (.mv (.t 2)),
 .o 50 (.nc (.k 49)),
 .o 51 (.fa 5 (.k 50)),
 .o 52 (.ld false 1 .cp (.k 51)),
 .o 53 (.bin .lss (.k 52) (.c (.i .i64 2)))] false [2,6,53] [6])
 (.cond 53 (.seq (.reg [] [.o 54 (.bd ([.b false,.f .f64 0,.i .i64 0,.i .i64 0]) []),
 .s (.st 4 (.t 6) (.k 54)),
 .o 7 (.mv (.c (.b false)))] false [6,7] [6])
 .ret)
 .skip))
 (.seq (.reg [] [.o 56 (.mv (.t 2)),
 .o 57 (.call n_multi_better [.k 56]),
 .o 55 (.mv (.k 57)),
 .o 58 (.ex false 0 55),
 .o 59 (.ex false 1 55),
 .o 8 (.mv (.k 58)),
 .o 9 (.mv (.k 59))] false [2,6,8,9] [6])
 (.seq (.reg [] [.o 60 (.mv (.k 2)),
 .o 61 (.mv (.k 8)),
 .o 62 (.nc (.k 60)),
 .o 63 (.fa 6 (.k 62)),
 .s (.st 1 (.k 63) (.k 61))] false [6,9] [6])
 (.seq (.reg [] [.o 64 (.bd ([.b false,.f .f64 0,.i .i64 0,.i .i64 0]) []),
 .o 65 (.mv (.k 9)),
 .o 66 (.un .not (.k 65)),
 .s (.st 4 (.t 6) (.k 64)),
 .o 7 (.mv (.k 66))] false [6,7] [6])
 .ret))))))
 .skip))
 (.seq (.reg [] [.o 67 (.mv (.t 2)),
 .u 68 (.mv (.t 2)) [0] 0,
 .u 69 (.nc (.k 68)) [0] 0,
 .u 70 (.fa 6 (.k 69)) [0] 0,
 .u 71 (.ld false 1 .cp (.k 70)) [0] 0,
 .u 72 (.nc (.k 67)) [1,2,3,4] 0,
 .u 73 (.fa 11 (.k 72)) [1,2,3,4] 0,
 .o 74 (.ia 3 (some 2) (.k 73) (.k 71)),
 .o 75 (.ld true 3 .cp (.k 74)),
 .u 10 (.al ([.i .u64 0,.i .i64 0,.l .o 2 []])) [0,1,2,3,4,5,6,7,8] 0,
 .s (.st 3 (.t 10) (.k 75))] true [1,2,3,6,10] [3,6,10])
 (.seq (.reg [] [.o 76 (.fa 1 (.t 10)),
 .o 77 (.fa 1 (.k 76)),
 .z 78 (.ld false 1 .cp (.k 77)) 2,
 .o 79 (.call n_pile_New [.k 78]),
 .o 11 (.mv (.k 79))] false [1,2,3,6,10,11] [3,6,10])
 (.seq (.reg [] [.o 81 (.mv (.t 11)),
 .o 82 (.call n_pile_Pile_Take [.k 81]),
 .o 80 (.mv (.k 82)),
 .o 83 (.ex false 0 80),
 .o 84 (.ex false 1 80),
 .o 12 (.al ([.f .f64 0,.i .i64 0])),
 .s (.st 2 (.t 12) (.k 83)),
 .o 13 (.mv (.k 84))] false [1,2,3,6,10,11,12] [3,6,10,12])
 (.seq (.seq (.reg [] [.o 85 (.mv (.k 1)),
 .u 86 (.mv (.t 2)) [0] 0,
 .u 87 (.mv (.t 2)) [0,1] 0,
 .u 88 (.nc (.k 87)) [0,1] 0,
 .u 89 (.fa 6 (.k 88)) [0,1] 0,
 .u 90 (.ld false 1 .cp (.k 89)) [0,1] 0,
 .u 91 (.nc (.k 86)) [0,2,3,4,5] 0,
 .u 92 (.fa 0 (.k 91)) [0,2,3,4,5] 0,
 .u 93 (.fa 3 (.k 92)) [0,2,3,4,5] 0,
 .u 94 (.ia 1 (some 2) (.k 93) (.k 90)) [0] 0,
 .u 95 (.ld false 1 .cp (.k 94)) [0] 0,
 .u 96 (.fa 0 (.k 3)) [0,1,2,3,4,5,6,7,8,9,10] 0,
 .u 97 (.ld false 1 .cp (.k 96)) [0,1,2,3,4,5,6,7,8,9,10] 0,
 .u 98 (.call n_op_Into [.k 95,.k 97]) [0] 0,
 .u 99 (.fa 0 (.k 10)) [0,1,2,3,4,5,6,7,8,9,10,11,12,13] 0,
 .u 100 (.ld false 1 .cp (.k 99)) [0,1,2,3,4,5,6,7,8,9,10,11,12,13] 0,
 .u 101 (.mv (.k 11)) [0,1,2,3,4,5,6,7,8,9,10,11,12,13,14,15] 0,
 .u 102 (.call n_pile_Pile_All [.k 101]) [0,14,15] 0,
 .u 103 (.bd ([.i .i64 0,.l .o 2 []]) [(1,1,.k 102)]) [0,14,15] 2,
 .o 104 (.call n_cell_Memory_Write [.k 85,.k 98,.k 100,.k 103])] true [2,6,12,104] [6,12])
 (.cond 104 (.seq (.reg [] [.o 105 (.ld true 2 .cp (.k 12)),
 .o 106 (.bd ([.b false,.f .f64 0,.i .i64 0,.i .i64 0]) [(0,1,.c (.b true)),(1,2,.k 105)]),
 .s (.st 4 (.t 6) (.k 106)),
 .o 7 (.mv (.c (.b true)))] false [6,7] [6])
 .ret)
 .skip))
 (.seq (.reg [] [.o 107 (.mv (.k 2)),
 .o 108 (.nc (.k 107)),
 .o 109 (.fa 5 (.k 108)),
 .s (.st 1 (.k 109) (.c (.i .i64 0)))] false [6] [6])
 (.seq (.reg [] [.o 110 (.bd ([.b false,.f .f64 0,.i .i64 0,.i .i64 0]) []),
 .s (.st 4 (.t 6) (.k 110)),
 .o 7 (.mv (.c (.b false)))] false [6,7] [6])
 .ret))))))))⟩

def F_pile_Pile_Put : F := ⟨2,[],
 (.seq (.reg [] [.o 3 (.bx (.k 1))] false [0,3] [3])
 (.reg [] [.o 4 (.mv (.k 0)),
 .o 5 (.nc (.k 4)),
 .o 6 (.fa 0 (.k 5)),
 .o 7 (.mi t_pile_items_u (.k 6)),
 .u 8 (.ld true 2 .cp (.k 3)) [0,1,2,3] 0,
 .u 9 (.call n_pile_Item_Canon [.k 8]) [0,1,2,3] 0,
 .u 10 (.mi t_pile_Item (.k 9)) [0,1,2,3] 0,
 .o 11 (.call n_container_heap_Push [.k 7,.k 10])] true [] []))⟩

def F_multi_better : F := ⟨1,[.inl 2,.inl 3],
 (.seq (.reg [] [.o 2 (.mv (.c (.i .i64 0))),
 .o 3 (.mv (.c (.b false)))] false [0] [])
 (.seq (.reg [] [.o 6 (.mv (.t 0)),
 .o 7 (.nc (.k 6)),
 .o 8 (.fa 11 (.k 7)),
 .o 9 (.ia 3 (some 2) (.k 8) (.c (.i .i64 0))),
 .o 10 (.fa 1 (.k 9)),
 .o 11 (.fa 1 (.k 10)),
 .o 12 (.ld false 1 .cp (.k 11)),
 .u 13 (.mv (.t 0)) [0,1,2,3,4,5,6] 0,
 .u 14 (.nc (.k 13)) [0,1,2,3,4,5,6] 0,
 .u 15 (.fa 11 (.k 14)) [0,1,2,3,4,5,6] 0,
 .u 16 (.ia 3 (some 2) (.k 15) (.c (.i .i64 1))) [0,1,2,3,4,5,6] 0,
 .u 17 (.fa 1 (.k 16)) [0,1,2,3,4,5,6] 0,
 .u 18 (.fa 1 (.k 17)) [0,1,2,3,4,5,6] 0,
 .u 19 (.ld false 1 .cp (.k 18)) [0,1,2,3,4,5,6] 0,
 .u 4 (.mv (.k 12)) [7,8,9,10,11,12,13] 0,
 .o 5 (.mv (.k 19))] true [4,5] [])
 (.seq (.blk 0 (.seq (.reg [] [.o 21 (.mv (.t 4)),
 .o 22 (.len false (.k 21)),
 .o 23 (.bin .eql (.k 22) (.c (.i .i64 0))),
 .o 20 (.mv (.k 23))] false [4,5,20] [])
 (.cond 20 (.seq (.reg [] [.o 24 (.mv (.k 5)),
 .o 25 (.len false (.k 24)),
 .o 26 (.bin .gtr (.k 25) (.c (.i .i64 0))),
 .o 2 (.mv (.c (.i .i64 1))),
 .o 3 (.mv (.k 26))] false [2,3] [])
 .ret)
 (.seq (.reg [] [.o 28 (.mv (.t 5)),
 .o 29 (.len false (.k 28)),
 .o 30 (.bin .gtr (.k 29) (.c (.i .i64 0))),
 .o 31 (.mv (.k 30)),
 .c 31 true 32 (.mv (.t 5)),
 .c 31 true 33 (.ia 2 none (.k 32) (.c (.i .i64 0))),
 .c 31 true 34 (.ld true 2 .cp (.k 33)),
 ⟨some 35,some (31,true),.mv (.k 4),[4,5,6],0⟩,
 ⟨some 36,some (31,true),.ia 2 none (.k 35) (.c (.i .i64 0)),[4,5,6],0⟩,
 ⟨some 37,some (31,true),.ld true 2 .cp (.k 36),[4,5,6],0⟩,
 .c 31 true 38 (.call n_pile_Item_Cmp [.k 34,.k 37]),
 .c 31 true 39 (.bin .lss (.k 38) (.c (.i .i64 0))),
 .o 40 (.pick (.t 31) (.k 39) (.c (.b false))),
 .o 27 (.mv (.k 40))] true [27] [])
 (.cond 27 (.seq (.reg [] [.o 2 (.mv (.c (.i .i64 1))),
 .o 3 (.mv (.c (.b true)))] false [2,3] [])
 .ret)
 .skip)))))
 (.seq (.reg [] [.o 2 (.mv (.c (.i .i64 0))),
 .o 3 (.mv (.c (.b true)))] false [2,3] [])
 .ret))))⟩

def F_container_heap_Push : F := ⟨2,[],
 (.seq (.reg [] [.o 4 (.mv (.t 0)),
 .o 5 (.mv (.k 1)),
 .o 6 (.inv "Push" (.k 4) [.k 5])] false [0] [])
 (.reg [] [.o 7 (.mv (.t 0)),
 .o 8 (.mv (.k 0)),
 .o 9 (.inv "Len" (.k 8) []),
 .o 10 (.bin .sub (.k 9) (.c (.i .i64 1))),
 .o 11 (.call n_container_heap_up [.k 7,.k 10])] false [] []))⟩

def F_container_heap_up : F := ⟨2,[],
 (.blk 0 (.loop (.blk 1 (.seq (.reg [] [.o 5 (.mv (.t 1)),
 .o 6 (.bin .sub (.k 5) (.c (.i .i64 1))),
 .o 7 (.bin .quo (.k 6) (.c (.i .i64 2))),
 .o 4 (.mv (.k 7))] false [0,1,4] [])
 (.seq (.seq (.reg [] [.o 8 (.mv (.t 4)),
 .o 9 (.mv (.t 1)),
 .o 10 (.bin .eql (.k 8) (.k 9)),
 .o 11 (.mv (.k 10)),
 .c 11 false 12 (.mv (.t 0)),
 .c 11 false 13 (.mv (.t 1)),
 .c 11 false 14 (.mv (.t 4)),
 .c 11 false 15 (.inv "Less" (.k 12) [.k 13,.k 14]),
 .c 11 false 16 (.un .not (.k 15)),
 .o 17 (.pick (.k 11) (.c (.b true)) (.k 16))] false [0,1,4,17] [])
 (.cond 17 (.exit 0)
 .skip))
 (.seq (.reg [] [.o 18 (.mv (.t 0)),
 .o 19 (.mv (.t 4)),
 .o 20 (.mv (.k 1)),
 .o 21 (.inv "Swap" (.k 18) [.k 19,.k 20])] false [0,4] [])
 (.reg [] [.o 22 (.mv (.k 4)),
 .o 1 (.mv (.k 22))] false [0,1] [])))))))⟩

def F_kfifo_Queue_Fits : F := ⟨2,[.inl 4],
 (.seq (.reg [] [.o 2 (.bx (.k 0)),
 .o 4 (.mv (.c (.b false)))] false [1,2] [2])
 (.seq (.reg [] [.o 5 (.mv (.t 1)),
 .o 6 (.bin .geq (.k 5) (.c (.i .i64 0))),
 .o 7 (.mv (.k 6)),
 .c 7 true 8 (.mv (.t 1)),
 .c 7 true 9 (.bin .lss (.k 8) (.c (.i .i64 1000))),
 .o 10 (.pick (.k 7) (.k 9) (.c (.b false))),
 .o 11 (.mv (.k 10)),
 .c 11 true 12 (.ld true 1 .cp (.t 2)),
 .c 11 true 13 (.mv (.k 1)),
 .c 11 true 14 (.fa 0 (.k 2)),
 .c 11 true 15 (.ld false 1 .cp (.k 14)),
 .c 11 true 16 (.call n_kfifo_Queue_Slot [.k 12,.k 13,.k 15]),
 .c 11 true 17 (.bin .leq (.k 16) (.c (.i .i64 1000))),
 .o 18 (.pick (.k 11) (.k 17) (.c (.b false))),
 .o 4 (.mv (.k 18))] false [4] [])
 .ret))⟩

def F_kfifo_Queue_Step : F := ⟨3,[.inr (6,true,4),.inl 7],
 (.seq (.reg [] [.o 3 (.bx (.k 0)),
 .o 6 (.al ([.b false,.f .f64 0,.i .i64 0,.i .i64 0])),
 .o 7 (.mv (.c (.b false)))] false [1,2,3,6] [3,6])
 (.seq (.seq (.reg [] [.o 8 (.mv (.t 2)),
 .o 9 (.nc (.k 8)),
 .o 10 (.fa 0 (.k 9)),
 .o 11 (.fa 0 (.k 10)),
 .o 12 (.ld false 1 .cp (.k 11)),
 .o 13 (.bin .eql (.k 12) (.c (.i .i64 3)))] false [1,2,3,6,13] [3,6])
 (.cond 13 (.seq (.reg [] [.o 14 (.ld true 1 .cp (.k 3)),
 .o 15 (.mv (.k 1)),
 .o 16 (.mv (.k 2)),
 .o 17 (.call n_kfifo_Queue_enq [.k 14,.k 15,.k 16]),
 .o 18 (.ex false 0 17),
 .o 19 (.ex false 1 17),
 .s (.st 4 (.t 6) (.k 18)),
 .o 7 (.mv (.k 19))] false [6,7] [6])
 .ret)
 .skip))
 (.seq (.reg [] [.o 20 (.ld true 1 .cp (.k 3)),
 .o 21 (.mv (.k 1)),
 .o 22 (.mv (.k 2)),
 .o 23 (.call n_kfifo_Queue_deq [.k 20,.k 21,.k 22]),
 .o 24 (.ex false 0 23),
 .o 25 (.ex false 1 23),
 .s (.st 4 (.t 6) (.k 24)),
 .o 7 (.mv (.k 25))] false [6,7] [6])
 .ret)))⟩

def F_kfifo_Queue_enq : F := ⟨3,[.inr (6,true,4),.inl 7],
 (.seq (.reg [] [.o 3 (.bx (.k 0)),
 .o 6 (.al ([.b false,.f .f64 0,.i .i64 0,.i .i64 0])),
 .o 7 (.mv (.c (.b false)))] false [1,2,3,6] [3,6])
 (.seq (.seq (.reg [] [.o 9 (.mv (.t 2)),
 .o 10 (.nc (.k 9)),
 .o 11 (.fa 5 (.k 10)),
 .o 12 (.ld false 1 .cp (.k 11))] false [1,2,3,6,12] [3,6])
 (.blk 0 (.seq (.reg [] [.o 28 (.bin .eql (.t 12) (.c (.i .i64 0))),
 .o 27 (.mv (.k 28))] false [1,2,3,6,12,27] [3,6])
 (.cond 27 (.seq (.reg [] [.o 29 (.mv (.t 2)),
 .u 30 (.mv (.k 1)) [0] 0,
 .u 31 (.call n_cell_Memory_Read [.k 30,.c (.i .i64 1)]) [0] 0,
 .u 32 (.nc (.k 29)) [1,2] 0,
 .u 33 (.fa 11 (.k 32)) [1,2] 0,
 .o 34 (.ia 3 (some 2) (.k 33) (.c (.i .i64 0))),
 .s (.st 3 (.k 34) (.k 31))] true [2,3,6] [3,6])
 (.seq (.reg [] [.o 35 (.mv (.t 2)),
 .o 36 (.mv (.t 2)),
 .o 37 (.nc (.k 36)),
 .o 38 (.fa 11 (.k 37)),
 .o 39 (.ia 3 (some 2) (.k 38) (.c (.i .i64 0))),
 .o 40 (.fa 1 (.k 39)),
 .o 41 (.fa 0 (.k 40)),
 .o 42 (.ld false 1 .cp (.k 41)),
 .o 43 (.nc (.k 35)),
 .o 44 (.fa 8 (.k 43)),
 .s (.st 1 (.k 44) (.k 42))] false [2,3,6] [3,6])
 (.seq (.reg [] [.o 45 (.ld true 1 .cp (.t 3)),
 .o 46 (.mv (.t 2)),
 .o 47 (.call n_kfifo_Queue_begin [.k 45,.k 46])] false [2,3,6] [3,6])
 (.seq (.reg [] [.o 48 (.bd ([.b false,.f .f64 0,.i .i64 0,.i .i64 0]) []),
 .u 49 (.ld true 1 .cp (.k 3)) [0] 0,
 .u 50 (.mv (.k 2)) [0,1] 0,
 .u 51 (.nc (.k 50)) [0,1] 0,
 .u 52 (.fa 8 (.k 51)) [0,1] 0,
 .u 53 (.ld false 1 .cp (.k 52)) [0,1] 0,
 .u 54 (.call n_kfifo_Queue_Fits [.k 49,.k 53]) [0] 0,
 .u 55 (.un .not (.k 54)) [0] 0,
 ⟨none,none,.st 4 (.t 6) (.k 48),[7],0⟩,
 .o 7 (.mv (.k 55))] true [6,7] [6])
 .ret))))
 (.seq (.reg [] [.o 57 (.bin .eql (.t 12) (.c (.i .i64 1))),
 .o 56 (.mv (.k 57))] false [1,2,3,6,12,56] [3,6])
 (.cond 56 (.seq (.reg [] [.o 58 (.mv (.t 2)),
 .u 59 (.mv (.k 1)) [0] 0,
 .u 60 (.ld true 1 .cp (.t 3)) [0,1] 0,
 .u 61 (.mv (.t 2)) [0,1,2] 0,
 .u 62 (.call n_kfifo_Queue_slot [.k 60,.k 61]) [0,1] 0,
 .u 63 (.call n_cell_Memory_Read [.k 59,.k 62]) [0] 0,
 .u 64 (.nc (.k 58)) [1,2,3,4,5] 0,
 .u 65 (.fa 11 (.k 64)) [1,2,3,4,5] 0,
 .o 66 (.ia 3 (some 2) (.k 65) (.c (.i .i64 1))),
 .s (.st 3 (.k 66) (.k 63))] true [2,3,6] [3,6])
 (.seq (.seq (.reg [] [.o 67 (.mv (.t 2)),
 .o 68 (.nc (.k 67)),
 .o 69 (.fa 11 (.k 68)),
 .o 70 (.ia 3 (some 2) (.k 69) (.c (.i .i64 1))),
 .o 71 (.fa 1 (.k 70)),
 .o 72 (.fa 0 (.k 71)),
 .o 73 (.ld false 1 .cp (.k 72)),
 .o 74 (.bin .eql (.k 73) (.c (.i .i64 0)))] false [2,3,6,74] [3,6])
 (.cond 74 (.seq (.reg [] [.o 75 (.mv (.k 2)),
 .o 76 (.nc (.k 75)),
 .o 77 (.fa 5 (.k 76)),
 .s (.st 1 (.k 77) (.c (.i .i64 2)))] false [6] [6])
 (.seq (.reg [] [.o 78 (.bd ([.b false,.f .f64 0,.i .i64 0,.i .i64 0]) []),
 .s (.st 4 (.t 6) (.k 78)),
 .o 7 (.mv (.c (.b false)))] false [6,7] [6])
 .ret))
 .skip))
 (.seq (.seq (.reg [] [.o 79 (.mv (.t 2)),
 .o 80 (.nc (.t 79)),
 .o 81 (.fa 7 (.k 80)),
 .o 82 (.ld false 1 .cp (.k 81)),
 .o 83 (.bin .add (.k 82) (.c (.i .i64 1))),
 .o 84 (.nc (.k 79)),
 .o 85 (.fa 7 (.k 84)),
 .s (.st 1 (.k 85) (.k 83))] false [2,3,6] [3,6])
 (.seq (.reg [] [.o 86 (.mv (.t 2)),
 .o 87 (.nc (.k 86)),
 .o 88 (.fa 7 (.k 87)),
 .o 89 (.ld false 1 .cp (.k 88)),
 .u 90 (.fa 0 (.k 3)) [0,1,2,3] 0,
 .u 91 (.ld false 1 .cp (.k 90)) [0,1,2,3] 0,
 .o 92 (.bin .eql (.k 89) (.k 91))] true [2,6,92] [6])
 (.cond 92 (.reg [] [.o 93 (.mv (.k 2)),
 .o 94 (.nc (.k 93)),
 .o 95 (.fa 5 (.k 94)),
 .s (.st 1 (.k 95) (.c (.i .i64 3)))] false [6] [6])
 .skip)))
 (.seq (.reg [] [.o 96 (.bd ([.b false,.f .f64 0,.i .i64 0,.i .i64 0]) []),
 .s (.st 4 (.t 6) (.k 96)),
 .o 7 (.mv (.c (.b false)))] false [6,7] [6])
 .ret))))
 (.seq (.reg [] [.o 98 (.bin .eql (.k 12) (.c (.i .i64 2))),
 .o 97 (.mv (.k 98))] false [1,2,3,6,97] [3,6])
 (.cond 97 (.seq (.reg [] [.o 99 (.mv (.t 2)),
 .o 100 (.nc (.k 99)),
 .o 101 (.fa 0 (.k 100)),
 .o 102 (.fa 1 (.k 101)),
 .o 103 (.ld true 2 .cp (.k 102)),
 .o 104 (.call n_pile_Item_Canon [.k 103]),
 .o 8 (.al ([.f .f64 0,.i .i64 0])),
 .s (.st 2 (.t 8) (.k 104))] false [1,2,3,6,8] [3,6,8])
 (.seq (.reg [] [.o 105 (.mv (.k 1)),
 .u 106 (.ld true 1 .cp (.k 3)) [0] 0,
 .u 107 (.mv (.t 2)) [0,1] 0,
 .u 108 (.call n_kfifo_Queue_slot [.k 106,.k 107]) [0] 0,
 .u 109 (.mv (.t 2)) [0,1,2,3] 0,
 .u 110 (.nc (.k 109)) [0,1,2,3] 0,
 .u 111 (.fa 11 (.k 110)) [0,1,2,3] 0,
 .u 112 (.ia 3 (some 2) (.k 111) (.c (.i .i64 1))) [0,1,2,3] 0,
 .u 113 (.fa 0 (.k 112)) [0,1,2,3] 0,
 .u 114 (.ld false 1 .cp (.k 113)) [0,1,2,3] 0,
 .u 115 (.ld true 2 .cp (.t 8)) [0,1,2,3,4,5,6,7,8,9] 0,
 .u 116 (.bs 2 1 (.a ([.f .f64 0,.i .i64 0])) [(0,.k 115)]) [0,1,2,3,4,5,6,7,8,9] 1,
 .u 117 (.bd ([.i .i64 0,.l .o 2 []]) [(0,1,.c (.i .i64 1)),(1,1,.k 116)]) [0,1,2,3,4,5,6,7,8,9] 2,
 .o 118 (.call n_cell_Memory_Write [.k 105,.k 108,.k 114,.k 117])] true [2,6,8,118] [6,8])
 (.cond 118 (.seq (.reg [] [.o 119 (.ld true 2 .cp (.k 8)),
 .o 120 (.bd ([.b false,.f .f64 0,.i .i64 0,.i .i64 0]) [(0,1,.c (.b true)),(1,2,.k 119)]),
 .s (.st 4 (.t 6) (.k 120)),
 .o 7 (.mv (.c (.b true)))] false [6,7] [6])
 .ret)
 .skip)))
 (.reg [] [.o 13 (.mv (.k 1)),
 .u 14 (.mv (.t 2)) [0] 0,
 .u 15 (.nc (.k 14)) [0] 0,
 .u 16 (.fa 11 (.k 15)) [0] 0,
 .u 17 (.ia 3 (some 2) (.k 16) (.c (.i .i64 0))) [0] 0,
 .u 18 (.fa 0 (.k 17)) [0] 0,
 .u 19 (.ld false 1 .cp (.k 18)) [0] 0,
 .u 20 (.mv (.t 2)) [0,1,2,3,4,5,6] 0,
 .u 21 (.nc (.k 20)) [0,1,2,3,4,5,6] 0,
 .u 22 (.fa 8 (.k 21)) [0,1,2,3,4,5,6] 0,
 .u 23 (.ld false 1 .cp (.k 22)) [0,1,2,3,4,5,6] 0,
 .u 24 (.bin .add (.k 23) (.c (.i .i64 1))) [0,1,2,3,4,5,6] 0,
 .u 25 (.bd ([.i .i64 0,.l .o 2 []]) [(0,1,.k 24)]) [0,1,2,3,4,5,6] 2,
 .o 26 (.call n_cell_Memory_Write [.k 13,.c (.i .i64 1),.k 19,.k 25])] true [2,6] [6])))))))))
 (.seq (.reg [] [.o 121 (.mv (.k 2)),
 .o 122 (.nc (.k 121)),
 .o 123 (.fa 5 (.k 122)),
 .s (.st 1 (.k 123) (.c (.i .i64 0)))] false [6] [6])
 (.seq (.reg [] [.o 124 (.bd ([.b false,.f .f64 0,.i .i64 0,.i .i64 0]) []),
 .s (.st 4 (.t 6) (.k 124)),
 .o 7 (.mv (.c (.b false)))] false [6,7] [6])
 .ret))))⟩

def F_kfifo_Queue_deq : F := ⟨3,[.inr (6,true,4),.inl 7],
 (.seq (.reg [] [.o 3 (.bx (.k 0)),
 .o 6 (.al ([.b false,.f .f64 0,.i .i64 0,.i .i64 0])),
 .o 7 (.mv (.c (.b false)))] false [1,2,3,6] [3,6])
 (.seq (.seq (.reg [] [.o 9 (.mv (.t 2)),
 .o 10 (.nc (.k 9)),
 .o 11 (.fa 5 (.k 10)),
 .o 12 (.ld false 1 .cp (.k 11))] false [1,2,3,6,12] [3,6])
 (.blk 0 (.seq (.reg [] [.o 28 (.bin .eql (.t 12) (.c (.i .i64 0))),
 .o 27 (.mv (.k 28))] false [1,2,3,6,12,27] [3,6])
 (.cond 27 (.seq (.reg [] [.o 29 (.mv (.t 2)),
 .u 30 (.mv (.k 1)) [0] 0,
 .u 31 (.call n_cell_Memory_Read [.k 30,.c (.i .i64 0)]) [0] 0,
 .u 32 (.nc (.k 29)) [1,2] 0,
 .u 33 (.fa 11 (.k 32)) [1,2] 0,
 .o 34 (.ia 3 (some 2) (.k 33) (.c (.i .i64 0))),
 .s (.st 3 (.k 34) (.k 31))] true [2,6] [6])
 (.seq (.reg [] [.o 35 (.mv (.t 2)),
 .o 36 (.mv (.t 2)),
 .o 37 (.nc (.k 36)),
 .o 38 (.fa 11 (.k 37)),
 .o 39 (.ia 3 (some 2) (.k 38) (.c (.i .i64 0))),
 .o 40 (.fa 1 (.k 39)),
 .o 41 (.fa 0 (.k 40)),
 .o 42 (.ld false 1 .cp (.k 41)),
 .o 43 (.nc (.k 35)),
 .o 44 (.fa 8 (.k 43)),
 .s (.st 1 (.k 44) (.k 42))] false [2,6] [6])
 (.seq (.reg [] [.o 45 (.mv (.k 2)),
 .o 46 (.nc (.k 45)),
 .o 47 (.fa 5 (.k 46)),
 .s (.st 1 (.k 47) (.c (.i .i64 1)))] false [6] [6])
 (.seq (.reg [] [.o 48 (.bd ([.b false,.f .f64 0,.i .i64 0,.i .i64 0]) []),
 .s (.st 4 (.t 6) (.k 48)),
 .o 7 (.mv (.c (.b false)))] false [6,7] [6])
 .ret))))
 (.seq (.reg [] [.o 50 (.bin .eql (.t 12) (.c (.i .i64 1))),
 .o 49 (.mv (.k 50))] false [1,2,3,6,12,49] [3,6])
 (.cond 49 (.seq (.reg [] [.o 51 (.mv (.t 2)),
 .u 52 (.mv (.k 1)) [0] 0,
 .u 53 (.call n_cell_Memory_Read [.k 52,.c (.i .i64 1)]) [0] 0,
 .u 54 (.nc (.k 51)) [1,2] 0,
 .u 55 (.fa 11 (.k 54)) [1,2] 0,
 .o 56 (.ia 3 (some 2) (.k 55) (.c (.i .i64 1))),
 .s (.st 3 (.k 56) (.k 53))] true [2,3,6] [3,6])
 (.seq (.reg [] [.o 57 (.ld true 1 .cp (.k 3)),
 .o 58 (.mv (.k 2)),
 .o 59 (.call n_kfifo_Queue_begin [.k 57,.k 58])] false [6] [6])
 (.seq (.reg [] [.o 60 (.bd ([.b false,.f .f64 0,.i .i64 0,.i .i64 0]) []),
 .s (.st 4 (.t 6) (.k 60)),
 .o 7 (.mv (.c (.b false)))] false [6,7] [6])
 .ret)))
 (.seq (.reg [] [.o 62 (.bin .eql (.t 12) (.c (.i .i64 2))),
 .o 61 (.mv (.k 62))] false [1,2,3,6,12,61] [3,6])
 (.cond 61 (.seq (.reg [] [.o 63 (.ld true 1 .cp (.k 3)),
 .o 64 (.mv (.k 1)),
 .o 65 (.mv (.k 2)),
 .o 66 (.call n_kfifo_Queue_look [.k 63,.k 64,.k 65]),
 .o 67 (.ex false 0 66),
 .o 68 (.ex false 1 66),
 .s (.st 4 (.t 6) (.k 67)),
 .o 7 (.mv (.k 68))] false [6,7] [6])
 .ret)
 (.seq (.reg [] [.o 70 (.bin .eql (.t 12) (.c (.i .i64 3))),
 .o 69 (.mv (.k 70))] false [1,2,3,6,12,69] [3,6])
 (.cond 69 (.seq (.reg [] [.o 71 (.mv (.t 2)),
 .o 72 (.nc (.k 71)),
 .o 73 (.fa 11 (.k 72)),
 .o 74 (.ia 3 (some 2) (.k 73) (.c (.i .i64 1))),
 .o 75 (.ld true 3 .cp (.k 74)),
 .o 8 (.al ([.i .u64 0,.i .i64 0,.l .o 2 []])),
 .s (.st 3 (.t 8) (.k 75))] false [1,2,3,6,8] [3,6,8])
 (.seq (.reg [] [.o 76 (.mv (.k 1)),
 .u 77 (.ld true 1 .cp (.k 3)) [0] 0,
 .u 78 (.mv (.t 2)) [0,1] 0,
 .u 79 (.call n_kfifo_Queue_slot [.k 77,.k 78]) [0] 0,
 .u 80 (.fa 0 (.t 8)) [0,1,2,3] 0,
 .u 81 (.ld false 1 .cp (.k 80)) [0,1,2,3] 0,
 .u 82 (.bd ([.i .i64 0,.l .o 2 []]) [(0,1,.c (.i .i64 2))]) [0,1,2,3,4,5] 2,
 .o 83 (.call n_cell_Memory_Write [.k 76,.k 79,.k 81,.k 82])] true [2,6,8,83] [6,8])
 (.cond 83 (.seq (.reg [] [.o 84 (.fa 1 (.k 8)),
 .o 85 (.fa 1 (.k 84)),
 .o 86 (.ld false 1 .tk (.k 85)),
 .o 87 (.ia 2 none (.k 86) (.c (.i .i64 0))),
 .o 88 (.ld true 2 .cp (.k 87)),
 .o 89 (.bd ([.b false,.f .f64 0,.i .i64 0,.i .i64 0]) [(0,1,.c (.b true)),(1,2,.k 88)]),
 .s (.st 4 (.t 6) (.k 89)),
 .o 7 (.mv (.c (.b true)))] false [6,7] [6])
 .ret)
 .skip)))
 (.seq (.reg [] [.o 91 (.bin .eql (.k 12) (.c (.i .i64 4))),
 .o 90 (.mv (.k 91))] false [1,2,6,90] [6])
 (.cond 90 (.reg [] [.o 92 (.mv (.k 1)),
 .u 93 (.mv (.t 2)) [0] 0,
 .u 94 (.nc (.k 93)) [0] 0,
 .u 95 (.fa 11 (.k 94)) [0] 0,
 .u 96 (.ia 3 (some 2) (.k 95) (.c (.i .i64 1))) [0] 0,
 .u 97 (.fa 0 (.k 96)) [0] 0,
 .u 98 (.ld false 1 .cp (.k 97)) [0] 0,
 .u 99 (.mv (.t 2)) [0,1,2,3,4,5,6] 0,
 .u 100 (.nc (.k 99)) [0,1,2,3,4,5,6] 0,
 .u 101 (.fa 8 (.k 100)) [0,1,2,3,4,5,6] 0,
 .u 102 (.ld false 1 .cp (.k 101)) [0,1,2,3,4,5,6] 0,
 .u 103 (.bin .add (.k 102) (.c (.i .i64 1))) [0,1,2,3,4,5,6] 0,
 .u 104 (.bd ([.i .i64 0,.l .o 2 []]) [(0,1,.k 103)]) [0,1,2,3,4,5,6] 2,
 .o 105 (.call n_cell_Memory_Write [.k 92,.c (.i .i64 1),.k 98,.k 104])] true [2,6] [6])
 (.reg [] [.o 13 (.mv (.k 1)),
 .u 14 (.mv (.t 2)) [0] 0,
 .u 15 (.nc (.k 14)) [0] 0,
 .u 16 (.fa 11 (.k 15)) [0] 0,
 .u 17 (.ia 3 (some 2) (.k 16) (.c (.i .i64 0))) [0] 0,
 .u 18 (.fa 0 (.k 17)) [0] 0,
 .u 19 (.ld false 1 .cp (.k 18)) [0] 0,
 .u 20 (.mv (.t 2)) [0,1,2,3,4,5,6] 0,
 .u 21 (.nc (.k 20)) [0,1,2,3,4,5,6] 0,
 .u 22 (.fa 8 (.k 21)) [0,1,2,3,4,5,6] 0,
 .u 23 (.ld false 1 .cp (.k 22)) [0,1,2,3,4,5,6] 0,
 .u 24 (.bin .add (.k 23) (.c (.i .i64 1))) [0,1,2,3,4,5,6] 0,
 .u 25 (.bd ([.i .i64 0,.l .o 2 []]) [(0,1,.k 24)]) [0,1,2,3,4,5,6] 2,
 .o 26 (.call n_cell_Memory_Write [.k 13,.c (.i .i64 0),.k 19,.k 25])] true [2,6] [6])))))))))))))
 (.seq (.reg [] [.o 106 (.mv (.k 2)),
 .o 107 (.nc (.k 106)),
 .o 108 (.fa 5 (.k 107)),
 .s (.st 1 (.k 108) (.c (.i .i64 0)))] false [6] [6])
 (.seq (.reg [] [.o 109 (.bd ([.b false,.f .f64 0,.i .i64 0,.i .i64 0]) []),
 .s (.st 4 (.t 6) (.k 109)),
 .o 7 (.mv (.c (.b false)))] false [6,7] [6])
 .ret))))⟩

end Go.AM

/- The functions of the program, as the abstract machine takes them: printed by gen2.py. -/
namespace Go.AM
set_option linter.unusedVariables false
def F_kfifo_Queue_begin : F := ⟨2,[],
 (.seq (.reg [] [.o 2 (.bx (.k 0))] false [1,2] [2])
 (.seq (.reg [] [.o 4 (.mv (.t 1)),
 .u 5 (.mv (.t 1)) [0] 0,
 .u 6 (.mv (.t 1)) [0,1] 0,
 .u 7 (.mv (.t 1)) [0,1,2] 0,
 .u 8 (.nc (.k 7)) [0,1,2] 0,
 .u 9 (.fa 0 (.k 8)) [0,1,2] 0,
 .u 10 (.fa 3 (.k 9)) [0,1,2] 0,
 .u 11 (.ia 1 (some 2) (.k 10) (.c (.i .i64 0))) [0,1,2] 0,
 .u 12 (.ld false 1 .cp (.k 11)) [0,1,2] 0,
 .u 13 (.fa 0 (.k 2)) [0,1,2,3,4,5,6,7,8] 0,
 .u 14 (.ld false 1 .cp (.k 13)) [0,1,2,3,4,5,6,7,8] 0,
 .u 15 (.call n_op_Into [.k 12,.k 14]) [0,1,2] 0,
 .u 16 (.nc (.k 4)) [1,2] 0,
 .u 17 (.fa 6 (.k 16)) [1,2] 0,
 ⟨none,none,.st 1 (.k 17) (.k 15),[1,2],0⟩,
 .u 18 (.nc (.k 5)) [2] 0,
 .u 19 (.fa 7 (.k 18)) [2] 0,
 ⟨none,none,.st 1 (.k 19) (.c (.i .i64 0)),[2],0⟩,
 .o 20 (.nc (.k 6)),
 .o 21 (.fa 10 (.k 20)),
 .s (.st 1 (.k 21) (.c (.b false)))] true [1] [])
 (.reg [] [.o 22 (.mv (.k 1)),
 .o 23 (.nc (.t 22)),
 .o 24 (.fa 5 (.k 23)),
 .o 25 (.ld false 1 .cp (.k 24)),
 .o 26 (.bin .add (.k 25) (.c (.i .i64 1))),
 .o 27 (.nc (.k 22)),
 .o 28 (.fa 5 (.k 27)),
 .s (.st 1 (.k 28) (.k 26))] false [] [])))⟩

def F_kfifo_Queue_slot : F := ⟨2,[.inl 4],
 (.seq (.reg [] [.o 2 (.bx (.k 0)),
 .o 4 (.mv (.c (.i .i64 0)))] false [1,2] [2])
 (.seq (.reg [] [.o 5 (.ld true 1 .cp (.t 2)),
 .u 6 (.mv (.t 1)) [0] 0,
 .u 7 (.nc (.k 6)) [0] 0,
 .u 8 (.fa 8 (.k 7)) [0] 0,
 .u 9 (.ld false 1 .cp (.k 8)) [0] 0,
 .u 10 (.mv (.t 1)) [0,1,2,3,4] 0,
 .u 11 (.nc (.k 10)) [0,1,2,3,4] 0,
 .u 12 (.fa 6 (.k 11)) [0,1,2,3,4] 0,
 .u 13 (.ld false 1 .cp (.k 12)) [0,1,2,3,4] 0,
 .u 14 (.mv (.t 1)) [0,1,2,3,4,5,6,7,8] 0,
 .u 15 (.nc (.k 14)) [0,1,2,3,4,5,6,7,8] 0,
 .u 16 (.fa 7 (.k 15)) [0,1,2,3,4,5,6,7,8] 0,
 .u 17 (.ld false 1 .cp (.k 16)) [0,1,2,3,4,5,6,7,8] 0,
 .u 18 (.bin .add (.k 13) (.k 17)) [0,1,2,3,4] 0,
 .u 19 (.fa 0 (.t 2)) [0,1,2,3,4,5,6,7,8,9,10,11,12,13] 0,
 .u 20 (.ld false 1 .cp (.k 19)) [0,1,2,3,4,5,6,7,8,9,10,11,12,13] 0,
 .u 21 (.bin .rem (.k 18) (.k 20)) [0,1,2,3,4] 0,
 .o 22 (.call n_kfifo_Queue_Slot [.k 5,.k 9,.k 21]),
 .o 4 (.mv (.k 22))] true [4] [])
 .ret))⟩

def F_kfifo_Queue_look : F := ⟨3,[.inr (6,true,4),.inl 7],
 (.seq (.reg [] [.o 3 (.bx (.k 0)),
 .o 6 (.al ([.b false,.f .f64 0,.i .i64 0,.i .i64 0])),
 .o 7 (.mv (.c (.b false)))] false [1,2,3,6] [3,6])
 (.seq (.reg [] [.o 9 (.mv (.k 1)),
 .o 10 (.ld true 1 .cp (.t 3)),
 .o 11 (.mv (.t 2)),
 .o 12 (.call n_kfifo_Queue_slot [.k 10,.k 11]),
 .o 13 (.call n_cell_Memory_Read [.k 9,.k 12]),
 .o 8 (.al ([.i .u64 0,.i .i64 0,.l .o 2 []])),
 .s (.st 3 (.t 8) (.k 13))] false [2,3,6,8] [3,6,8])
 (.seq (.seq (.reg [] [.o 14 (.fa 1 (.t 8)),
 .o 15 (.fa 0 (.k 14)),
 .o 16 (.ld false 1 .cp (.k 15)),
 .o 17 (.bin .eql (.k 16) (.c (.i .i64 1)))] false [2,3,6,8,17] [3,6,8])
 (.cond 17 (.seq (.reg [] [.o 18 (.mv (.t 2)),
 .u 19 (.mv (.t 2)) [0] 0,
 .u 20 (.ld true 3 .cp (.k 8)) [0,1] 0,
 .u 21 (.nc (.k 18)) [1,2] 0,
 .u 22 (.fa 11 (.k 21)) [1,2] 0,
 .u 23 (.ia 3 (some 2) (.k 22) (.c (.i .i64 1))) [1] 0,
 ⟨none,none,.st 3 (.k 23) (.k 20),[1],0⟩,
 .o 24 (.nc (.k 19)),
 .o 25 (.fa 5 (.k 24)),
 .s (.st 1 (.k 25) (.c (.i .i64 3)))] true [6] [6])
 (.seq (.reg [] [.o 26 (.bd ([.b false,.f .f64 0,.i .i64 0,.i .i64 0]) []),
 .s (.st 4 (.t 6) (.k 26)),
 .o 7 (.mv (.c (.b false)))] false [6,7] [6])
 .ret))
 .skip))
 (.seq (.reg [] [.o 27 (.mv (.t 2)),
 .o 28 (.mv (.t 2)),
 .o 29 (.nc (.k 28)),
 .o 30 (.fa 10 (.k 29)),
 .o 31 (.ld false 1 .cp (.k 30)),
 .o 32 (.mv (.k 31)),
 .c 32 false 33 (.fa 1 (.k 8)),
 .c 32 false 34 (.fa 0 (.k 33)),
 .c 32 false 35 (.ld false 1 .cp (.k 34)),
 .c 32 false 36 (.bin .eql (.k 35) (.c (.i .i64 0))),
 .o 37 (.pick (.k 32) (.c (.b true)) (.k 36)),
 .o 38 (.nc (.k 27)),
 .o 39 (.fa 10 (.k 38)),
 .s (.st 1 (.k 39) (.k 37))] false [2,3,6] [3,6])
 (.seq (.seq (.reg [] [.o 40 (.mv (.t 2)),
 .o 41 (.nc (.t 40)),
 .o 42 (.fa 7 (.k 41)),
 .o 43 (.ld false 1 .cp (.k 42)),
 .o 44 (.bin .add (.k 43) (.c (.i .i64 1))),
 .o 45 (.nc (.k 40)),
 .o 46 (.fa 7 (.k 45)),
 .s (.st 1 (.k 46) (.k 44))] false [2,3,6] [3,6])
 (.seq (.reg [] [.o 47 (.mv (.t 2)),
 .o 48 (.nc (.k 47)),
 .o 49 (.fa 7 (.k 48)),
 .o 50 (.ld false 1 .cp (.k 49)),
 .u 51 (.fa 0 (.k 3)) [0,1,2,3] 0,
 .u 52 (.ld false 1 .cp (.k 51)) [0,1,2,3] 0,
 .o 53 (.bin .lss (.k 50) (.k 52))] true [2,6,53] [6])
 (.cond 53 (.seq (.reg [] [.o 54 (.bd ([.b false,.f .f64 0,.i .i64 0,.i .i64 0]) []),
 .s (.st 4 (.t 6) (.k 54)),
 .o 7 (.mv (.c (.b false)))] false [6,7] [6])
 .ret)
 .skip)))
 (.seq (.reg [] [.o 55 (.mv (.t 2)),
 .o 56 (.nc (.k 55)),
 .o 57 (.fa 5 (.k 56)),
 .s (.st 1 (.k 57) (.c (.i .i64 5)))] false [2,6] [6])
 (.seq (.seq (.reg [] [.o 58 (.mv (.t 2)),
 .o 59 (.nc (.k 58)),
 .o 60 (.fa 11 (.k 59)),
 .o 61 (.ia 3 (some 2) (.k 60) (.c (.i .i64 1))),
 .o 62 (.fa 1 (.k 61)),
 .o 63 (.fa 0 (.k 62)),
 .o 64 (.ld false 1 .cp (.k 63)),
 .u 65 (.mv (.t 2)) [0,1,2,3,4,5,6] 0,
 .u 66 (.nc (.k 65)) [0,1,2,3,4,5,6] 0,
 .u 67 (.fa 8 (.k 66)) [0,1,2,3,4,5,6] 0,
 .u 68 (.ld false 1 .cp (.k 67)) [0,1,2,3,4,5,6] 0,
 .o 69 (.bin .eql (.k 64) (.k 68))] true [2,6,69] [6])
 (.cond 69 (.reg [] [.o 70 (.mv (.t 2)),
 .o 71 (.nc (.k 70)),
 .o 72 (.fa 5 (.k 71)),
 .s (.st 1 (.k 72) (.c (.i .i64 4)))] false [2,6] [6])
 .skip))
 (.seq (.reg [] [.o 73 (.bd ([.b false,.f .f64 0,.i .i64 0,.i .i64 0]) []),
 .u 74 (.mv (.k 2)) [0] 0,
 .u 75 (.nc (.k 74)) [0] 0,
 .u 76 (.fa 10 (.k 75)) [0] 0,
 .u 77 (.ld false 1 .cp (.k 76)) [0] 0,
 ⟨none,none,.st 4 (.t 6) (.k 73),[1,2,3,4],0⟩,
 .o 7 (.mv (.k 77))] true [6,7] [6])
 .ret))))))))⟩

def F_tally_Tally_Step : F := ⟨3,[.inr (6,true,4),.inl 7],
 (.seq (.reg [] [.o 3 (.bx (.k 0)),
 .o 6 (.al ([.b false,.f .f64 0,.i .i64 0,.i .i64 0])),
 .o 7 (.mv (.c (.b false)))] false [1,2,3,6] [3,6])
 (.seq (.seq (.reg [] [.o 10 (.mv (.t 2)),
 .o 11 (.nc (.k 10)),
 .o 12 (.fa 0 (.k 11)),
 .o 13 (.fa 0 (.k 12)),
 .o 14 (.ld false 1 .cp (.k 13)),
 .o 15 (.bin .eql (.k 14) (.c (.i .i64 6)))] false [1,2,3,6,15] [3,6])
 (.cond 15 (.seq (.reg [] [.o 16 (.ld true 1 .cp (.k 3)),
 .o 17 (.mv (.k 1)),
 .o 18 (.mv (.k 2)),
 .o 19 (.call n_tally_Tally_sum [.k 16,.k 17,.k 18]),
 .o 20 (.ex false 0 19),
 .o 21 (.ex false 1 19),
 .s (.st 4 (.t 6) (.k 20)),
 .o 7 (.mv (.k 21))] false [6,7] [6])
 .ret)
 .skip))
 (.seq (.reg [] [.o 22 (.mv (.t 2)),
 .o 23 (.nc (.k 22)),
 .o 24 (.fa 0 (.k 23)),
 .o 25 (.fa 3 (.k 24)),
 .o 26 (.ia 1 (some 2) (.k 25) (.c (.i .i64 0))),
 .o 27 (.ld false 1 .cp (.k 26)),
 .u 28 (.fa 0 (.k 3)) [0,1,2,3,4,5] 0,
 .u 29 (.ld false 1 .cp (.k 28)) [0,1,2,3,4,5] 0,
 .o 30 (.call n_op_Into [.k 27,.k 29]),
 .o 8 (.mv (.k 30))] true [1,2,6,8] [6])
 (.seq (.reg [] [.o 31 (.mv (.t 2)),
 .o 32 (.nc (.k 31)),
 .o 33 (.fa 11 (.k 32)),
 .o 34 (.ia 3 (some 2) (.k 33) (.c (.i .i64 0))),
 .o 9 (.mv (.k 34))] false [1,2,6,8,9] [6])
 (.seq (.seq (.reg [] [.o 35 (.mv (.t 2)),
 .o 36 (.nc (.k 35)),
 .o 37 (.fa 5 (.k 36)),
 .o 38 (.ld false 1 .cp (.k 37)),
 .o 39 (.bin .eql (.k 38) (.c (.i .i64 0)))] false [1,2,6,8,9,39] [6])
 (.cond 39 (.seq (.reg [] [.o 40 (.mv (.k 9)),
 .o 41 (.mv (.k 1)),
 .o 42 (.mv (.k 8)),
 .o 43 (.call n_cell_Memory_Read [.k 41,.k 42]),
 .o 44 (.nc (.k 40)),
 .s (.st 3 (.k 44) (.k 43))] false [2,6] [6])
 (.seq (.reg [] [.o 45 (.mv (.k 2)),
 .o 46 (.nc (.k 45)),
 .o 47 (.fa 5 (.k 46)),
 .s (.st 1 (.k 47) (.c (.i .i64 1)))] false [6] [6])
 (.seq (.reg [] [.o 48 (.bd ([.b false,.f .f64 0,.i .i64 0,.i .i64 0]) []),
 .s (.st 4 (.t 6) (.k 48)),
 .o 7 (.mv (.c (.b false)))] false [6,7] [6])
 .ret)))
 .skip))
 (.seq (.seq (.reg [] [.o 49 (.mv (.k 1)),
 .u 50 (.mv (.k 8)) [0] 0,
 .u 51 (.mv (.t 9)) [0,1] 0,
 .u 52 (.nc (.k 51)) [0,1] 0,
 .u 53 (.fa 0 (.k 52)) [0,1] 0,
 .u 54 (.ld false 1 .cp (.k 53)) [0,1] 0,
 .u 55 (.mv (.t 9)) [0,1,2,3,4,5] 0,
 .u 56 (.nc (.k 55)) [0,1,2,3,4,5] 0,
 .u 57 (.fa 1 (.k 56)) [0,1,2,3,4,5] 0,
 .u 58 (.fa 0 (.k 57)) [0,1,2,3,4,5] 0,
 .u 59 (.ld false 1 .cp (.k 58)) [0,1,2,3,4,5] 0,
 .u 60 (.mv (.t 2)) [0,1,2,3,4,5,6,7,8,9,10] 0,
 .u 61 (.nc (.k 60)) [0,1,2,3,4,5,6,7,8,9,10] 0,
 .u 62 (.fa 0 (.k 61)) [0,1,2,3,4,5,6,7,8,9,10] 0,
 .u 63 (.fa 1 (.k 62)) [0,1,2,3,4,5,6,7,8,9,10] 0,
 .u 64 (.fa 1 (.k 63)) [0,1,2,3,4,5,6,7,8,9,10] 0,
 .u 65 (.ld false 1 .cp (.k 64)) [0,1,2,3,4,5,6,7,8,9,10] 0,
 .u 66 (.bin .add (.k 59) (.k 65)) [0,1,2,3,4,5] 0,
 .u 67 (.bd ([.i .i64 0,.l .o 2 []]) [(0,1,.k 66)]) [0,1,2,3,4,5] 2,
 .o 68 (.call n_cell_Memory_Write [.k 49,.k 50,.k 54,.k 67])] true [2,6,68] [6])
 (.cond 68 (.seq (.reg [] [.o 69 (.bd ([.b false,.f .f64 0,.i .i64 0,.i .i64 0]) [(0,1,.c (.b true))]),
 .s (.st 4 (.t 6) (.k 69)),
 .o 7 (.mv (.c (.b true)))] false [6,7] [6])
 .ret)
 .skip))
 (.seq (.reg [] [.o 70 (.mv (.k 2)),
 .o 71 (.nc (.k 70)),
 .o 72 (.fa 5 (.k 71)),
 .s (.st 1 (.k 72) (.c (.i .i64 0)))] false [6] [6])
 (.seq (.reg [] [.o 73 (.bd ([.b false,.f .f64 0,.i .i64 0,.i .i64 0]) []),
 .s (.st 4 (.t 6) (.k 73)),
 .o 7 (.mv (.c (.b false)))] false [6,7] [6])
 .ret))))))))⟩

def F_tally_Tally_sum : F := ⟨3,[.inr (6,true,4),.inl 7],
 (.seq (.reg [] [.o 3 (.bx (.k 0)),
 .o 6 (.al ([.b false,.f .f64 0,.i .i64 0,.i .i64 0])),
 .o 7 (.mv (.c (.b false)))] false [1,2,3,6] [3,6])
 (.seq (.reg [] [.o 8 (.mv (.t 2)),
 .o 9 (.nc (.t 8)),
 .o 10 (.fa 9 (.k 9)),
 .o 11 (.ld false 1 .cp (.k 10)),
 .u 12 (.mv (.k 1)) [0,1,2,3] 0,
 .u 13 (.mv (.t 2)) [0,1,2,3,4] 0,
 .u 14 (.nc (.k 13)) [0,1,2,3,4] 0,
 .u 15 (.fa 6 (.k 14)) [0,1,2,3,4] 0,
 .u 16 (.ld false 1 .cp (.k 15)) [0,1,2,3,4] 0,
 .u 17 (.call n_cell_Memory_Read [.k 12,.k 16]) [0,1,2,3] 0,
 .u 18 (.fd true 1 2 (.k 17)) [0,1,2,3] 0,
 .u 19 (.fd false 0 1 (.k 18)) [0,1,2,3] 0,
 .o 20 (.bin .add (.k 11) (.k 19)),
 .o 21 (.nc (.t 8)),
 .o 22 (.fa 9 (.k 21)),
 .s (.st 1 (.k 22) (.k 20))] true [2,3,6] [3,6])
 (.seq (.reg [] [.o 23 (.mv (.t 2)),
 .o 24 (.nc (.t 23)),
 .o 25 (.fa 6 (.k 24)),
 .o 26 (.ld false 1 .cp (.k 25)),
 .o 27 (.bin .add (.k 26) (.c (.i .i64 1))),
 .o 28 (.nc (.k 23)),
 .o 29 (.fa 6 (.k 28)),
 .s (.st 1 (.k 29) (.k 27))] false [2,3,6] [3,6])
 (.seq (.seq (.reg [] [.o 30 (.mv (.t 2)),
 .o 31 (.nc (.k 30)),
 .o 32 (.fa 6 (.k 31)),
 .o 33 (.ld false 1 .cp (.k 32)),
 .u 34 (.fa 0 (.k 3)) [0,1,2,3] 0,
 .u 35 (.ld false 1 .cp (.k 34)) [0,1,2,3] 0,
 .o 36 (.bin .lss (.k 33) (.k 35))] true [2,6,36] [6])
 (.cond 36 (.seq (.reg [] [.o 37 (.bd ([.b false,.f .f64 0,.i .i64 0,.i .i64 0]) []),
 .s (.st 4 (.t 6) (.k 37)),
 .o 7 (.mv (.c (.b false)))] false [6,7] [6])
 .ret)
 .skip))
 (.seq (.reg [] [.o 38 (.mv (.k 2)),
 .o 39 (.nc (.k 38)),
 .o 40 (.fa 9 (.k 39)),
 .o 41 (.ld false 1 .cp (.k 40)),
 .o 42 (.bd ([.b false,.f .f64 0,.i .i64 0,.i .i64 0]) [(0,1,.c (.b true)),(3,1,.k 41)]),
 .s (.st 4 (.t 6) (.k 42)),
 .o 7 (.mv (.c (.b true)))] false [6,7] [6])
 .ret)))))⟩

def F_pile_items_Push : F := ⟨2,[],
 (.reg [] [.o 4 (.mv (.t 0)),
 .u 5 (.mv (.t 0)) [0] 0,
 .u 6 (.nc (.k 5)) [0] 0,
 .u 7 (.ld false 1 .tk (.k 6)) [0] 0,
 .u 8 (.mv (.k 1)) [0,1,2,3] 0,
 .u 9 (.ta t_pile_Item (.k 8)) [0,1,2,3] 0,
 .u 10 (.bs 2 1 (.a ([.f .f64 0,.i .i64 0])) [(0,.k 9)]) [0,1,2,3] 0,
 .u 11 (.app 2 16 (.k 7) (.k 10)) [0] 0,
 .o 12 (.nc (.k 4)),
 .s (.st 1 (.k 12) (.k 11))] true [] [])⟩

def F_pile_items_Len_q : F := ⟨1,[.inl 2],
 (.seq (.reg [] [.o 2 (.mv (.c (.i .i64 0)))] false [0] [])
 (.seq (.reg [] [.o 3 (.mv (.k 0)),
 .o 4 (.len false (.k 3)),
 .o 2 (.mv (.k 4))] false [2] [])
 .ret))⟩

def F_pile_items_Less_q : F := ⟨3,[.inl 6],
 (.seq (.reg [] [.o 6 (.mv (.c (.b false)))] false [0,1,2] [])
 (.seq (.reg [] [.o 7 (.mv (.t 0)),
 .u 8 (.mv (.k 1)) [0] 0,
 .o 9 (.ia 2 none (.k 7) (.k 8)),
 .o 10 (.ld true 2 .cp (.k 9)),
 .u 11 (.mv (.t 0)) [0,1,2,3] 0,
 .u 12 (.mv (.k 2)) [0,1,2,3,4] 0,
 .u 13 (.ia 2 none (.k 11) (.k 12)) [0,1,2,3] 0,
 .u 14 (.ld true 2 .cp (.k 13)) [0,1,2,3] 0,
 .o 15 (.call n_pile_Item_Cmp [.k 10,.k 14]),
 .o 16 (.bin .lss (.k 15) (.c (.i .i64 0))),
 .o 6 (.mv (.k 16))] true [6] [])
 .ret))⟩

def F_pile_items_Swap_q : F := ⟨3,[],
 (.reg [] [.o 6 (.mv (.t 0)),
 .u 7 (.mv (.t 1)) [0] 0,
 .u 8 (.mv (.t 0)) [0,1] 0,
 .u 9 (.mv (.t 2)) [0,1,2] 0,
 .u 10 (.mv (.t 0)) [0,1,2,3] 0,
 .u 11 (.mv (.t 2)) [0,1,2,3,4] 0,
 .u 12 (.ia 2 none (.k 10) (.k 11)) [0,1,2,3] 0,
 .u 13 (.ld true 2 .cp (.k 12)) [0,1,2,3] 0,
 .u 14 (.mv (.t 0)) [0,1,2,3,4,5,6,7] 0,
 .u 15 (.mv (.t 1)) [0,1,2,3,4,5,6,7,8] 0,
 .u 16 (.ia 2 none (.k 14) (.k 15)) [0,1,2,3,4,5,6,7] 0,
 .u 17 (.ld true 2 .cp (.k 16)) [0,1,2,3,4,5,6,7] 0,
 .u 18 (.ia 2 none (.k 6) (.k 7)) [2,3] 0,
 ⟨none,none,.st 2 (.k 18) (.k 13),[2,3],0⟩,
 .o 19 (.ia 2 none (.k 8) (.k 9)),
 .s (.st 2 (.k 19) (.k 17))] true [] [])⟩

end Go.AM

/- The table of the functions. -/
namespace Go.AM
set_option linter.unusedVariables false
def tab : List (Nat × F) := [(n_c_law16_ScanPlays, F_c_law16_ScanPlays), (n_c_law12_Kind, F_c_law12_Kind), (n_c_law16_awake, F_c_law16_awake), (n_c_law16_Make, F_c_law16_Make), (n_c_law16_Both_Does, F_c_law16_Both_Does), (n_engine_Engine_Memory, F_engine_Engine_Memory), (n_c_law06_Run_Same, F_c_law06_Run_Same), (n_scan_New, F_scan_New), (n_scan_Runner_Open, F_scan_Runner_Open), (n_scan_Runner_Start, F_scan_Runner_Start), (n_scan_Runner_Scanning, F_scan_Runner_Scanning), (n_engine_Engine_Busy, F_engine_Engine_Busy), (n_scan_Runner_Pick, F_scan_Runner_Pick), (n_scan_Runner_Take, F_scan_Runner_Take), (n_scan_Runner_Quiet, F_scan_Runner_Quiet), (n_engine_Engine_Closed, F_engine_Engine_Closed), (n_engine_New, F_engine_New), (n_history_Of, F_history_Of), (n_scan_Of, F_scan_Of), (n_history_Recorder_Begin, F_history_Recorder_Begin), (n_c_law06_Own, F_c_law06_Own), (n_scan_Runner_Ticks, F_scan_Runner_Ticks), (n_cell_Memory_Clock, F_cell_Memory_Clock), (n_op_Into, F_op_Into), (n_op_Legal, F_op_Legal), (n_pile_Item_Cmp, F_pile_Item_Cmp), (n_c_ref13_New, F_c_ref13_New), (n_c_ref13_Begin, F_c_ref13_Begin), (n_c_law06_Told, F_c_law06_Told), (n_c_law16_Both_pick, F_c_law16_Both_pick), (n_scan_Runner_Close, F_scan_Runner_Close), (n_c_ref16_Gate, F_c_ref16_Gate), (n_c_ref16_Start, F_c_ref16_Start), (n_c_law16_IsShot, F_c_law16_IsShot), (n_cell_Memory_Len, F_cell_Memory_Len), (n_c_ref05_Len, F_c_ref05_Len), (n_c_ref05_Read, F_c_ref05_Read), (n_cell_Memory_Read, F_cell_Memory_Read), (n_c_law05_Is, F_c_law05_Is), (n_engine_Engine_Open, F_engine_Engine_Open), (n_history_Recorder_Pick, F_history_Recorder_Pick), (n_scan_Runner_step, F_scan_Runner_step), (n_engine_With, F_engine_With), (n_cell_New, F_cell_New), (n_pile_New, F_pile_New), (n_pile_Pile_All, F_pile_Pile_All), (n_engine_Engine_Begin, F_engine_Engine_Begin), (n_engine_Engine_Steps, F_engine_Engine_Steps), (n_c_ref06_Of, F_c_ref06_Of), (n_c_ref06_Into, F_c_ref06_Into), (n_c_law04_Own, F_c_law04_Own), (n_net_New, F_net_New), (n_net_Net_Out, F_net_Net_Out), (n_real_Cmp, F_real_Cmp), (n_c_ref06_Check, F_c_ref06_Check), (n_c_ref04_Make, F_c_ref04_Make), (n_c_ref16_Pick, F_c_ref16_Pick), (n_c_law06_IsAnswer, F_c_law06_IsAnswer), (n_engine_Engine_Close, F_engine_Engine_Close), (n_cell_Value_Clone, F_cell_Value_Clone), (n_c_law04_Are, F_c_law04_Are), (n_engine_Engine_Pick, F_engine_Engine_Pick), (n_scan_Runner_cells, F_scan_Runner_cells), (n_scan_Runner_done, F_scan_Runner_done), (n_scan_Runner_failed, F_scan_Runner_failed), (n_engine_machine, F_engine_machine), (n_op_Op_Check, F_op_Op_Check), (n_pile_Item_Canon, F_pile_Item_Canon), (n_container_heap_Init, F_container_heap_Init), (n_pile_Pile_Take, F_pile_Pile_Take), (n_c_law03_F, F_c_law03_F), (n_cell_Memory_Write, F_cell_Memory_Write), (n_wire_Make, F_wire_Make), (n_real_Key, F_real_Key), (n_c_ref03_Bits, F_c_ref03_Bits), (n_c_ref13_Busy, F_c_ref13_Busy), (n_c_ref13_Pick, F_c_ref13_Pick), (n_c_ref16_step, F_c_ref16_step), (n_c_law04_Is, F_c_law04_Is), (n_engine_Engine_Kind, F_engine_Engine_Kind), (n_engine_Engine_Param, F_engine_Engine_Param), (n_scan_scanner_again, F_scan_scanner_again), (n_multi_New, F_multi_New), (n_kfifo_New, F_kfifo_New), (n_tally_New, F_tally_New), (n_op_Of, F_op_Of), (n_real_Canon, F_real_Canon), (n_container_heap_down, F_container_heap_down), (n_container_heap_Pop, F_container_heap_Pop), (n_wire_Plan_count, F_wire_Plan_count), (n_c_ref12_Step, F_c_ref12_Step), (n_c_ref16_cell, F_c_ref16_cell), (n_c_ref16_finish, F_c_ref16_finish), (n_kfifo_Queue_Slot, F_kfifo_Queue_Slot), (n_wire_Plan_merge, F_wire_Plan_merge), (n_c_ref08_Step, F_c_ref08_Step), (n_c_ref09_Step, F_c_ref09_Step), (n_c_ref07_Step, F_c_ref07_Step), (n_c_ref11_Step, F_c_ref11_Step), (n_c_ref10_Count, F_c_ref10_Count), (n_wire_every, F_wire_every), (n_c_ref08_insert, F_c_ref08_insert), (n_c_ref04_Cmp, F_c_ref04_Cmp), (n_c_ref05_Write, F_c_ref05_Write), (n_c_ref09_enq, F_c_ref09_enq), (n_c_ref09_look, F_c_ref09_look), (n_c_ref09_slot, F_c_ref09_slot), (n_c_ref09_again, F_c_ref09_again), (n_c_ref11_more, F_c_ref11_more), (n_c_ref10_Merge, F_c_ref10_Merge), (n_c_ref04_With, F_c_ref04_With), (n_c_ref03_Cmp, F_c_ref03_Cmp), (n_c_ref09_Slot, F_c_ref09_Slot), (n_c_ref10_pick, F_c_ref10_pick), (n_c_ref03_Key, F_c_ref03_Key), (n_net_Net_Step, F_net_Net_Step), (n_net_Net_gate, F_net_Net_gate), (n_net_bump, F_net_bump), (n_net_Net_place, F_net_Net_place), (n_pile_items_Len, F_pile_items_Len), (n_pile_items_Less, F_pile_items_Less), (n_pile_items_Swap, F_pile_items_Swap), (n_pile_items_Pop, F_pile_items_Pop), (n_multi_Multi_Step, F_multi_Multi_Step), (n_multi_Multi_insert, F_multi_Multi_insert), (n_multi_Multi_delete, F_multi_Multi_delete), (n_pile_Pile_Put, F_pile_Pile_Put), (n_multi_better, F_multi_better), (n_container_heap_Push, F_container_heap_Push), (n_container_heap_up, F_container_heap_up), (n_kfifo_Queue_Fits, F_kfifo_Queue_Fits), (n_kfifo_Queue_Step, F_kfifo_Queue_Step), (n_kfifo_Queue_enq, F_kfifo_Queue_enq), (n_kfifo_Queue_deq, F_kfifo_Queue_deq), (n_kfifo_Queue_begin, F_kfifo_Queue_begin), (n_kfifo_Queue_slot, F_kfifo_Queue_slot), (n_kfifo_Queue_look, F_kfifo_Queue_look), (n_tally_Tally_Step, F_tally_Tally_Step), (n_tally_Tally_sum, F_tally_Tally_sum), (n_pile_items_Push, F_pile_items_Push), (n_pile_items_Len_q, F_pile_items_Len_q), (n_pile_items_Less_q, F_pile_items_Less_q), (n_pile_items_Swap_q, F_pile_items_Swap_q)]
def methL : List (TypeId × String × FuncId) := [(t_pile_Item, "Canon", n_pile_Item_Canon), (t_pile_Item, "Cmp", n_pile_Item_Cmp), (t_net_Net, "Out", n_net_Net_Out), (t_net_Net, "Step", n_net_Net_Step), (t_net_Net, "carryover/net.gate", n_net_Net_gate), (t_net_Net, "carryover/net.place", n_net_Net_place), (t_pile_items_u, "Len", n_pile_items_Len_q), (t_pile_items_u, "Less", n_pile_items_Less_q), (t_pile_items_u, "Pop", n_pile_items_Pop), (t_pile_items_u, "Push", n_pile_items_Push), (t_pile_items_u, "Swap", n_pile_items_Swap_q), (t_multi_Multi, "Step", n_multi_Multi_Step), (t_multi_Multi, "carryover/multi.delete", n_multi_Multi_delete), (t_multi_Multi, "carryover/multi.insert", n_multi_Multi_insert), (t_kfifo_Queue, "Fits", n_kfifo_Queue_Fits), (t_kfifo_Queue, "Slot", n_kfifo_Queue_Slot), (t_kfifo_Queue, "Step", n_kfifo_Queue_Step), (t_kfifo_Queue, "carryover/kfifo.begin", n_kfifo_Queue_begin), (t_kfifo_Queue, "carryover/kfifo.deq", n_kfifo_Queue_deq), (t_kfifo_Queue, "carryover/kfifo.enq", n_kfifo_Queue_enq), (t_kfifo_Queue, "carryover/kfifo.look", n_kfifo_Queue_look), (t_kfifo_Queue, "carryover/kfifo.slot", n_kfifo_Queue_slot), (t_tally_Tally, "Step", n_tally_Tally_Step), (t_tally_Tally, "carryover/tally.sum", n_tally_Tally_sum)]
def srtL : FuncId → FuncId → Nat → List D → Option (List D) := fun _ _ _ _ => none
def libL : FuncId → List D → Option D := fun f ds => none
def EE : En := ⟨fun f => look f tab, some 177, some 155, fun t nm => (methL.find? fun p => p.1 == t && p.2.1 == nm).map (·.2.2), libL, srtL⟩
theorem e_c_law16_ScanPlays : EE.fn n_c_law16_ScanPlays = some F_c_law16_ScanPlays := by kernel_rfl
theorem e_c_law12_Kind : EE.fn n_c_law12_Kind = some F_c_law12_Kind := by kernel_rfl
theorem e_c_law16_Make : EE.fn n_c_law16_Make = some F_c_law16_Make := by kernel_rfl
theorem e_c_law16_Both_Does : EE.fn n_c_law16_Both_Does = some F_c_law16_Both_Does := by kernel_rfl
theorem e_engine_Engine_Memory : EE.fn n_engine_Engine_Memory = some F_engine_Engine_Memory := by kernel_rfl
theorem e_c_law06_Run_Same : EE.fn n_c_law06_Run_Same = some F_c_law06_Run_Same := by kernel_rfl
theorem e_scan_New : EE.fn n_scan_New = some F_scan_New := by kernel_rfl
theorem e_scan_Runner_Open : EE.fn n_scan_Runner_Open = some F_scan_Runner_Open := by kernel_rfl
theorem e_scan_Runner_Start : EE.fn n_scan_Runner_Start = some F_scan_Runner_Start := by kernel_rfl
theorem e_scan_Runner_Scanning : EE.fn n_scan_Runner_Scanning = some F_scan_Runner_Scanning := by kernel_rfl
theorem e_engine_Engine_Busy : EE.fn n_engine_Engine_Busy = some F_engine_Engine_Busy := by kernel_rfl
theorem e_scan_Runner_Pick : EE.fn n_scan_Runner_Pick = some F_scan_Runner_Pick := by kernel_rfl
theorem e_scan_Runner_Take : EE.fn n_scan_Runner_Take = some F_scan_Runner_Take := by kernel_rfl
theorem e_scan_Runner_Quiet : EE.fn n_scan_Runner_Quiet = some F_scan_Runner_Quiet := by kernel_rfl
theorem e_engine_Engine_Closed : EE.fn n_engine_Engine_Closed = some F_engine_Engine_Closed := by kernel_rfl
theorem e_engine_New : EE.fn n_engine_New = some F_engine_New := by kernel_rfl
theorem e_history_Of : EE.fn n_history_Of = some F_history_Of := by kernel_rfl
theorem e_scan_Of : EE.fn n_scan_Of = some F_scan_Of := by kernel_rfl
theorem e_history_Recorder_Begin : EE.fn n_history_Recorder_Begin = some F_history_Recorder_Begin := by kernel_rfl
theorem e_c_law06_Own : EE.fn n_c_law06_Own = some F_c_law06_Own := by kernel_rfl
theorem e_scan_Runner_Ticks : EE.fn n_scan_Runner_Ticks = some F_scan_Runner_Ticks := by kernel_rfl
theorem e_cell_Memory_Clock : EE.fn n_cell_Memory_Clock = some F_cell_Memory_Clock := by kernel_rfl
theorem e_op_Into : EE.fn n_op_Into = some F_op_Into := by kernel_rfl
theorem e_op_Legal : EE.fn n_op_Legal = some F_op_Legal := by kernel_rfl
theorem e_pile_Item_Cmp : EE.fn n_pile_Item_Cmp = some F_pile_Item_Cmp := by kernel_rfl
theorem e_c_ref13_New : EE.fn n_c_ref13_New = some F_c_ref13_New := by kernel_rfl
theorem e_c_ref13_Begin : EE.fn n_c_ref13_Begin = some F_c_ref13_Begin := by kernel_rfl
theorem e_c_law06_Told : EE.fn n_c_law06_Told = some F_c_law06_Told := by kernel_rfl
theorem e_c_law16_Both_pick : EE.fn n_c_law16_Both_pick = some F_c_law16_Both_pick := by kernel_rfl
theorem e_scan_Runner_Close : EE.fn n_scan_Runner_Close = some F_scan_Runner_Close := by kernel_rfl
theorem e_c_ref16_Gate : EE.fn n_c_ref16_Gate = some F_c_ref16_Gate := by kernel_rfl
theorem e_c_ref16_Start : EE.fn n_c_ref16_Start = some F_c_ref16_Start := by kernel_rfl
theorem e_c_law16_IsShot : EE.fn n_c_law16_IsShot = some F_c_law16_IsShot := by kernel_rfl
theorem e_cell_Memory_Len : EE.fn n_cell_Memory_Len = some F_cell_Memory_Len := by kernel_rfl
theorem e_c_ref05_Len : EE.fn n_c_ref05_Len = some F_c_ref05_Len := by kernel_rfl
theorem e_c_ref05_Read : EE.fn n_c_ref05_Read = some F_c_ref05_Read := by kernel_rfl
theorem e_cell_Memory_Read : EE.fn n_cell_Memory_Read = some F_cell_Memory_Read := by kernel_rfl
theorem e_c_law05_Is : EE.fn n_c_law05_Is = some F_c_law05_Is := by kernel_rfl
theorem e_engine_Engine_Open : EE.fn n_engine_Engine_Open = some F_engine_Engine_Open := by kernel_rfl
theorem e_history_Recorder_Pick : EE.fn n_history_Recorder_Pick = some F_history_Recorder_Pick := by kernel_rfl
theorem e_scan_Runner_step : EE.fn n_scan_Runner_step = some F_scan_Runner_step := by kernel_rfl
theorem e_engine_With : EE.fn n_engine_With = some F_engine_With := by kernel_rfl
theorem e_cell_New : EE.fn n_cell_New = some F_cell_New := by kernel_rfl
theorem e_pile_New : EE.fn n_pile_New = some F_pile_New := by kernel_rfl
theorem e_pile_Pile_All : EE.fn n_pile_Pile_All = some F_pile_Pile_All := by kernel_rfl
theorem e_engine_Engine_Begin : EE.fn n_engine_Engine_Begin = some F_engine_Engine_Begin := by kernel_rfl
theorem e_engine_Engine_Steps : EE.fn n_engine_Engine_Steps = some F_engine_Engine_Steps := by kernel_rfl
theorem e_c_ref06_Of : EE.fn n_c_ref06_Of = some F_c_ref06_Of := by kernel_rfl
theorem e_c_ref06_Into : EE.fn n_c_ref06_Into = some F_c_ref06_Into := by kernel_rfl
theorem e_c_law04_Own : EE.fn n_c_law04_Own = some F_c_law04_Own := by kernel_rfl
theorem e_net_New : EE.fn n_net_New = some F_net_New := by kernel_rfl
theorem e_net_Net_Out : EE.fn n_net_Net_Out = some F_net_Net_Out := by kernel_rfl
theorem e_real_Cmp : EE.fn n_real_Cmp = some F_real_Cmp := by kernel_rfl
theorem e_c_ref06_Check : EE.fn n_c_ref06_Check = some F_c_ref06_Check := by kernel_rfl
theorem e_c_ref04_Make : EE.fn n_c_ref04_Make = some F_c_ref04_Make := by kernel_rfl
theorem e_c_ref16_Pick : EE.fn n_c_ref16_Pick = some F_c_ref16_Pick := by kernel_rfl
theorem e_c_law06_IsAnswer : EE.fn n_c_law06_IsAnswer = some F_c_law06_IsAnswer := by kernel_rfl
theorem e_engine_Engine_Close : EE.fn n_engine_Engine_Close = some F_engine_Engine_Close := by kernel_rfl
theorem e_cell_Value_Clone : EE.fn n_cell_Value_Clone = some F_cell_Value_Clone := by kernel_rfl
theorem e_c_law04_Are : EE.fn n_c_law04_Are = some F_c_law04_Are := by kernel_rfl
theorem e_engine_Engine_Pick : EE.fn n_engine_Engine_Pick = some F_engine_Engine_Pick := by kernel_rfl
theorem e_scan_Runner_cells : EE.fn n_scan_Runner_cells = some F_scan_Runner_cells := by kernel_rfl
theorem e_scan_Runner_done : EE.fn n_scan_Runner_done = some F_scan_Runner_done := by kernel_rfl
theorem e_scan_Runner_failed : EE.fn n_scan_Runner_failed = some F_scan_Runner_failed := by kernel_rfl
theorem e_engine_machine : EE.fn n_engine_machine = some F_engine_machine := by kernel_rfl
theorem e_op_Op_Check : EE.fn n_op_Op_Check = some F_op_Op_Check := by kernel_rfl
theorem e_pile_Item_Canon : EE.fn n_pile_Item_Canon = some F_pile_Item_Canon := by kernel_rfl
theorem e_container_heap_Init : EE.fn n_container_heap_Init = some F_container_heap_Init := by kernel_rfl
theorem e_pile_Pile_Take : EE.fn n_pile_Pile_Take = some F_pile_Pile_Take := by kernel_rfl
theorem e_c_law03_F : EE.fn n_c_law03_F = some F_c_law03_F := by kernel_rfl
theorem e_cell_Memory_Write : EE.fn n_cell_Memory_Write = some F_cell_Memory_Write := by kernel_rfl
theorem e_wire_Make : EE.fn n_wire_Make = some F_wire_Make := by kernel_rfl
theorem e_real_Key : EE.fn n_real_Key = some F_real_Key := by kernel_rfl
theorem e_c_ref03_Bits : EE.fn n_c_ref03_Bits = some F_c_ref03_Bits := by kernel_rfl
theorem e_c_ref13_Busy : EE.fn n_c_ref13_Busy = some F_c_ref13_Busy := by kernel_rfl
theorem e_c_ref13_Pick : EE.fn n_c_ref13_Pick = some F_c_ref13_Pick := by kernel_rfl
theorem e_c_ref16_step : EE.fn n_c_ref16_step = some F_c_ref16_step := by kernel_rfl
theorem e_c_law04_Is : EE.fn n_c_law04_Is = some F_c_law04_Is := by kernel_rfl
theorem e_engine_Engine_Kind : EE.fn n_engine_Engine_Kind = some F_engine_Engine_Kind := by kernel_rfl
theorem e_engine_Engine_Param : EE.fn n_engine_Engine_Param = some F_engine_Engine_Param := by kernel_rfl
theorem e_scan_scanner_again : EE.fn n_scan_scanner_again = some F_scan_scanner_again := by kernel_rfl
theorem e_multi_New : EE.fn n_multi_New = some F_multi_New := by kernel_rfl
theorem e_kfifo_New : EE.fn n_kfifo_New = some F_kfifo_New := by kernel_rfl
theorem e_tally_New : EE.fn n_tally_New = some F_tally_New := by kernel_rfl
theorem e_op_Of : EE.fn n_op_Of = some F_op_Of := by kernel_rfl
theorem e_real_Canon : EE.fn n_real_Canon = some F_real_Canon := by kernel_rfl
theorem e_container_heap_down : EE.fn n_container_heap_down = some F_container_heap_down := by kernel_rfl
theorem e_container_heap_Pop : EE.fn n_container_heap_Pop = some F_container_heap_Pop := by kernel_rfl
theorem e_c_ref12_Step : EE.fn n_c_ref12_Step = some F_c_ref12_Step := by kernel_rfl
theorem e_c_ref16_cell : EE.fn n_c_ref16_cell = some F_c_ref16_cell := by kernel_rfl
theorem e_c_ref16_finish : EE.fn n_c_ref16_finish = some F_c_ref16_finish := by kernel_rfl
theorem e_kfifo_Queue_Slot : EE.fn n_kfifo_Queue_Slot = some F_kfifo_Queue_Slot := by kernel_rfl
theorem e_c_ref08_Step : EE.fn n_c_ref08_Step = some F_c_ref08_Step := by kernel_rfl
theorem e_c_ref09_Step : EE.fn n_c_ref09_Step = some F_c_ref09_Step := by kernel_rfl
theorem e_c_ref07_Step : EE.fn n_c_ref07_Step = some F_c_ref07_Step := by kernel_rfl
theorem e_c_ref11_Step : EE.fn n_c_ref11_Step = some F_c_ref11_Step := by kernel_rfl
theorem e_c_ref08_insert : EE.fn n_c_ref08_insert = some F_c_ref08_insert := by kernel_rfl
theorem e_c_ref04_Cmp : EE.fn n_c_ref04_Cmp = some F_c_ref04_Cmp := by kernel_rfl
theorem e_c_ref05_Write : EE.fn n_c_ref05_Write = some F_c_ref05_Write := by kernel_rfl
theorem e_c_ref09_enq : EE.fn n_c_ref09_enq = some F_c_ref09_enq := by kernel_rfl
theorem e_c_ref09_look : EE.fn n_c_ref09_look = some F_c_ref09_look := by kernel_rfl
theorem e_c_ref09_slot : EE.fn n_c_ref09_slot = some F_c_ref09_slot := by kernel_rfl
theorem e_c_ref09_again : EE.fn n_c_ref09_again = some F_c_ref09_again := by kernel_rfl
theorem e_c_ref11_more : EE.fn n_c_ref11_more = some F_c_ref11_more := by kernel_rfl
theorem e_c_ref04_With : EE.fn n_c_ref04_With = some F_c_ref04_With := by kernel_rfl
theorem e_c_ref03_Cmp : EE.fn n_c_ref03_Cmp = some F_c_ref03_Cmp := by kernel_rfl
theorem e_c_ref09_Slot : EE.fn n_c_ref09_Slot = some F_c_ref09_Slot := by kernel_rfl
theorem e_c_ref03_Key : EE.fn n_c_ref03_Key = some F_c_ref03_Key := by kernel_rfl
theorem e_net_Net_Step : EE.fn n_net_Net_Step = some F_net_Net_Step := by kernel_rfl
theorem e_net_Net_gate : EE.fn n_net_Net_gate = some F_net_Net_gate := by kernel_rfl
theorem e_net_bump : EE.fn n_net_bump = some F_net_bump := by kernel_rfl
theorem e_net_Net_place : EE.fn n_net_Net_place = some F_net_Net_place := by kernel_rfl
theorem e_pile_items_Pop : EE.fn n_pile_items_Pop = some F_pile_items_Pop := by kernel_rfl
theorem e_multi_Multi_Step : EE.fn n_multi_Multi_Step = some F_multi_Multi_Step := by kernel_rfl
theorem e_multi_Multi_insert : EE.fn n_multi_Multi_insert = some F_multi_Multi_insert := by kernel_rfl
theorem e_multi_Multi_delete : EE.fn n_multi_Multi_delete = some F_multi_Multi_delete := by kernel_rfl
theorem e_pile_Pile_Put : EE.fn n_pile_Pile_Put = some F_pile_Pile_Put := by kernel_rfl
theorem e_multi_better : EE.fn n_multi_better = some F_multi_better := by kernel_rfl
theorem e_container_heap_Push : EE.fn n_container_heap_Push = some F_container_heap_Push := by kernel_rfl
theorem e_container_heap_up : EE.fn n_container_heap_up = some F_container_heap_up := by kernel_rfl
theorem e_kfifo_Queue_Fits : EE.fn n_kfifo_Queue_Fits = some F_kfifo_Queue_Fits := by kernel_rfl
theorem e_kfifo_Queue_Step : EE.fn n_kfifo_Queue_Step = some F_kfifo_Queue_Step := by kernel_rfl
theorem e_kfifo_Queue_enq : EE.fn n_kfifo_Queue_enq = some F_kfifo_Queue_enq := by kernel_rfl
theorem e_kfifo_Queue_deq : EE.fn n_kfifo_Queue_deq = some F_kfifo_Queue_deq := by kernel_rfl
theorem e_kfifo_Queue_begin : EE.fn n_kfifo_Queue_begin = some F_kfifo_Queue_begin := by kernel_rfl
theorem e_kfifo_Queue_slot : EE.fn n_kfifo_Queue_slot = some F_kfifo_Queue_slot := by kernel_rfl
theorem e_kfifo_Queue_look : EE.fn n_kfifo_Queue_look = some F_kfifo_Queue_look := by kernel_rfl
theorem e_tally_Tally_Step : EE.fn n_tally_Tally_Step = some F_tally_Tally_Step := by kernel_rfl
theorem e_tally_Tally_sum : EE.fn n_tally_Tally_sum = some F_tally_Tally_sum := by kernel_rfl
theorem e_pile_items_Push : EE.fn n_pile_items_Push = some F_pile_items_Push := by kernel_rfl
theorem e_pile_items_Len_q : EE.fn n_pile_items_Len_q = some F_pile_items_Len_q := by kernel_rfl
theorem e_pile_items_Less_q : EE.fn n_pile_items_Less_q = some F_pile_items_Less_q := by kernel_rfl
theorem e_pile_items_Swap_q : EE.fn n_pile_items_Swap_q = some F_pile_items_Swap_q := by kernel_rfl
end Go.AM
