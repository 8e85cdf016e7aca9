/- Chapter 17 does not call Get. -/
import Derived.Test.YteohdanlcaoaiaaDoorBase
