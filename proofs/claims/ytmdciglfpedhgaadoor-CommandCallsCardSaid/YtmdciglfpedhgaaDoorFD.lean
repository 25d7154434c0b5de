/- The reader's words. -/
import Derived.Test.YtmdciglfpedhgaaDoorKF
